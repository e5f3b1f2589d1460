/- compact in plain numbers: a row of trees with their hashes; a tree pushed behind it, and joined as long as can be. -/
import Derived.Test.YtgbafjmklefoiaaDoorK1
import Derived.Test.YtgbafjmklefoiaaDoorNd
namespace Go.Proofs.YtgbafjmklefoiaaDoor
/-- the hash of a whole tree over these leaves -/
def trC (f : Nat → List UInt8) : Nat → Nat → List UInt8
  | 0, I => f I
  | L + 1, I => nd (trC f L (2 * I)) (trC f L (2 * I + 1))
theorem trC_length {f : Nat → List UInt8} (h : ∀ i, (f i).length = 32) : ∀ (L I : Nat), (trC f L I).length = 32
  | 0, I => h I
  | _ + 1, _ => nd_length _ _
def coC (p : Nat × Nat × List UInt8) : Nat × Nat := (p.1, p.2.1)
/-- do both have a parent, and the same one? -/
def joinC (a n : Nat × Nat × List UInt8) : Bool := upK a.1 a.2.1 && upK n.1 n.2.1 && decide (upL a.1 a.2.1 = upL n.1 n.2.1 ∧ upI a.1 a.2.1 = upI n.1 n.2.1)
def upC1 (a n : Nat × Nat × List UInt8) : Nat × Nat × List UInt8 := (upL a.1 a.2.1, upI a.1 a.2.1, nd a.2.2 n.2.2)
/-- behind a row that lies the other way round -/
def pushR : List (Nat × Nat × List UInt8) → Nat × Nat × List UInt8 → List (Nat × Nat × List UInt8)
  | [], n => [n]
  | a :: l, n => if joinC a n then pushR l (upC1 a n) else n :: a :: l
def pushN (l : List (Nat × Nat × List UInt8)) (n : Nat × Nat × List UInt8) : List (Nat × Nat × List UInt8) := (pushR l.reverse n).reverse
theorem pushN_nil (n : Nat × Nat × List UInt8) : pushN [] n = [n] := rfl
theorem pushN_snoc (l : List (Nat × Nat × List UInt8)) (a n : Nat × Nat × List UInt8) : pushN (l ++ [a]) n = if joinC a n then pushN l (upC1 a n) else l ++ [a] ++ [n] := by
  unfold pushN
  rw [List.reverse_append, List.reverse_singleton, List.singleton_append, pushR]
  split
  · rfl
  · simp
theorem pushR_mem {l : List (Nat × Nat × List UInt8)} (h : ∀ x ∈ l, x.2.2.length = 32) : ∀ {n : Nat × Nat × List UInt8}, n.2.2.length = 32 → ∀ x ∈ pushR l n, x.2.2.length = 32 := by
  induction l with
  | nil => intro n hn x hx; rw [pushR, List.mem_singleton] at hx; rw [hx]; exact hn
  | cons a l ih =>
    intro n hn x hx
    rw [pushR] at hx
    split at hx
    · exact ih (fun y hy => h y (List.mem_cons_of_mem _ hy)) (n := upC1 a n) (nd_length _ _) x hx
    · rcases List.mem_cons.1 hx with rfl | hx
      · exact hn
      · exact h x hx
theorem pushN_mem {l : List (Nat × Nat × List UInt8)} (h : ∀ x ∈ l, x.2.2.length = 32) {n : Nat × Nat × List UInt8} (hn : n.2.2.length = 32) : ∀ x ∈ pushN l n, x.2.2.length = 32 := by
  intro x hx
  unfold pushN at hx
  exact pushR_mem (fun y hy => h y (List.mem_reverse.1 hy)) hn x (List.mem_reverse.1 hx)
theorem pushR_len (l : List (Nat × Nat × List UInt8)) : ∀ n, (pushR l n).length ≤ l.length + 1 := by
  induction l with
  | nil => intro n; simp [pushR]
  | cons a l ih =>
    intro n
    rw [pushR]
    split
    · have := ih (upC1 a n); simp; omega
    · simp
theorem pushN_len (l : List (Nat × Nat × List UInt8)) (n : Nat × Nat × List UInt8) : (pushN l n).length ≤ l.length + 1 := by
  unfold pushN
  have := pushR_len l.reverse n
  rw [List.length_reverse] at this ⊢
  exact this
def GoodC (f : Nat → List UInt8) (l : List (Nat × Nat × List UInt8)) : Prop := ∀ p ∈ l, p.2.2 = trC f p.1 p.2.1
/-- a tree pushed behind a row without neighbours that are both halves of one -/
theorem push_law (f : Nat → List UInt8) {b e : Nat} (he : e ≤ 2 ^ 63) : ∀ (k : Nat) (l : List (Nat × Nat × List UInt8)) (n : Nat × Nat × List UInt8), l.length = k → Tile b e ((l ++ [n]).map coC) → Norm (l.map coC) → GoodC f l → n.2.2 = trC f n.1 n.2.1 →
    Tile b e ((pushN l n).map coC) ∧ Norm ((pushN l n).map coC) ∧ GoodC f (pushN l n) := by
  intro k
  induction k with
  | zero =>
    intro l n hl ht hn hg hp
    obtain rfl := List.length_eq_zero_iff.1 hl
    refine ⟨ht, trivial, fun p hp' => ?_⟩
    rw [pushN_nil, List.mem_singleton] at hp'
    rw [hp']; exact hp
  | succ k ih =>
    intro l n hl ht hn hg hp
    obtain ⟨l', a, rfl⟩ : ∃ l' a, l = l' ++ [a] := ⟨l.dropLast, l.getLast (fun e => by rw [e] at hl; simp at hl), (List.dropLast_concat_getLast _).symm⟩
    have hl' : l'.length = k := by simpa using hl
    have ht2 : Tile b e (l'.map coC ++ [coC a, coC n]) := by simpa using ht
    have hj := join_iff ht2 he
    have hga : a.2.2 = trC f a.1 a.2.1 := hg a (by simp)
    rw [pushN_snoc]
    by_cases h : joinC a n = true
    · rw [if_pos h]
      unfold joinC at h
      simp only [Bool.and_eq_true, decide_eq_true_eq] at h
      obtain ⟨⟨h1, h2⟩, h3, h4⟩ := h
      have hs : Sibs (coC a) (coC n) := hj.1 ⟨h2, h1, h3.symm, h4.symm⟩
      obtain ⟨u1, u2, _, _⟩ := up_of h1
      have ht3 := tile_join ht2 he hs
      obtain ⟨s1, s2, s3⟩ := hs
      refine ih l' (upC1 a n) hl' ?_ ?_ (fun p hp' => hg p (by simp [hp'])) ?_
      · rw [List.map_append]
        have e1 : coC (upC1 a n) = ((coC a).1 + 1, (coC a).2 / 2) := by unfold upC1 coC; simp only; rw [u1, u2]
        rw [List.map_singleton, e1]
        exact ht3
      · rw [List.map_append] at hn
        exact norm_init hn
      · show nd a.2.2 n.2.2 = trC f (upL a.1 a.2.1) (upI a.1 a.2.1)
        rw [u1, u2, hga, hp]
        simp only [coC] at s1 s2 s3
        show _ = nd (trC f a.1 (2 * (a.2.1 / 2))) (trC f a.1 (2 * (a.2.1 / 2) + 1))
        rw [show 2 * (a.2.1 / 2) = a.2.1 by omega, ← s3, ← s1]
    · rw [if_neg h]
      have hns : ¬ Sibs (coC a) (coC n) := fun hs => h (by
        obtain ⟨k1, k2, k3, k4⟩ := hj.2 hs
        unfold joinC
        simp only [Bool.and_eq_true, decide_eq_true_eq]
        exact ⟨⟨k2, k1⟩, k3.symm, k4.symm⟩)
      refine ⟨by simpa using ht2, ?_, fun p hp' => ?_⟩
      · rw [List.map_append] at hn
        have := norm_snoc hn hns
        simpa using this
      · rcases List.mem_append.1 hp' with h1 | h1
        · exact hg p h1
        · rw [List.mem_singleton] at h1
          rw [h1]; exact hp
/-- the row of a stretch -/
def rowC (f : Nat → List UInt8) (b e : Nat) : List (Nat × Nat × List UInt8) := (coverN b e).map fun c => (c.1, c.2, trC f c.1 c.2)
theorem rowC_co (f : Nat → List UInt8) (b e : Nat) : (rowC f b e).map coC = coverN b e := by
  unfold rowC
  rw [List.map_map]
  have : (coC ∘ fun c : Nat × Nat => (c.1, c.2, trC f c.1 c.2)) = id := by funext c; rfl
  rw [this, List.map_id]
theorem rowC_good (f : Nat → List UInt8) (b e : Nat) : GoodC f (rowC f b e) := by
  intro p hp
  obtain ⟨c, _, rfl⟩ := List.mem_map.1 hp
  rfl
theorem rowC_of (f : Nat → List UInt8) {b e : Nat} {l : List (Nat × Nat × List UInt8)} (h : l.map coC = coverN b e) (hg : GoodC f l) : l = rowC f b e := by
  unfold rowC
  rw [← h, List.map_map]
  conv => lhs; rw [← List.map_id l]
  refine List.map_congr_left fun p hp => ?_
  show p = (p.1, p.2.1, trC f p.1 p.2.1)
  rw [← hg p hp]
theorem rowC_nil (f : Nat → List UInt8) (b : Nat) : rowC f b b = [] := by unfold rowC; rw [coverN_nil (by omega)]; rfl
theorem rowC_mem {f : Nat → List UInt8} (h : ∀ i, (f i).length = 32) (b e : Nat) : ∀ x ∈ rowC f b e, x.2.2.length = 32 := by
  intro x hx
  rw [rowC_good f b e x hx]
  exact trC_length h _ _
theorem push_row (f : Nat → List UInt8) {b L I : Nat} (hb : b ≤ I * 2 ^ L) (hL : L ≤ 63) (he : I * 2 ^ L + 2 ^ L ≤ 2 ^ 63) : pushN (rowC f b (I * 2 ^ L)) (L, I, trC f L I) = rowC f b (I * 2 ^ L + 2 ^ L) := by
  have hp := Nat.two_pow_pos L
  have ht : Tile b (I * 2 ^ L + 2 ^ L) ((rowC f b (I * 2 ^ L) ++ [(L, I, trC f L I)]).map coC) := by
    rw [List.map_append, rowC_co]
    exact tile_append (cover_tile _ (Nat.le_refl _) hb (by omega)) ⟨hL, rfl, rfl⟩
  obtain ⟨h1, h2, h3⟩ := push_law f he _ (rowC f b (I * 2 ^ L)) (L, I, trC f L I) rfl ht (by rw [rowC_co]; exact cover_norm _ (Nat.le_refl _) (by omega)) (rowC_good f b _) rfl
  exact rowC_of f (norm_unique _ h1 h2 he) h3
theorem push_leaf (f : Nat → List UInt8) {b E : Nat} (hb : b ≤ E) (he : E < 2 ^ 63) : pushN (rowC f b E) (0, E, f E) = rowC f b (E + 1) := by
  have := push_row f (b := b) (L := 0) (I := E) (by simpa using hb) (by decide) (by simp; omega)
  simpa [trC] using this
/-- a row pushed behind another, tree by tree -/
theorem push_rows (f : Nat → List UInt8) {b : Nat} : ∀ (l : List (Nat × Nat × List UInt8)) {m e : Nat}, b ≤ m → Tile m e (l.map coC) → GoodC f l → e ≤ 2 ^ 63 → l.foldl pushN (rowC f b m) = rowC f b e
  | [], m, e, _, ht, _, _ => by rw [show m = e from ht]; rfl
  | p :: l, m, e, hb, ht, hg, he => by
    obtain ⟨h1, h2, h3⟩ := (show Tile m e ((p.1, p.2.1) :: l.map coC) from ht)
    simp only at h1 h2 h3
    have h4 := h3.le
    have hp : p = (p.1, p.2.1, trC f p.1 p.2.1) := by
      have := hg p (by simp)
      rw [← this]
    rw [List.foldl_cons, hp, h2, push_row f (by omega) h1 (by omega)]
    refine push_rows f l (Nat.le_trans hb (by rw [h2]; exact Nat.le_add_right _ _)) ?_ (fun q hq => hg q (by simp [hq])) he
    rw [h2] at h3
    exact h3
theorem join_rows (f : Nat → List UInt8) {b m e : Nat} (hb : b ≤ m) (hm : m ≤ e) (he : e ≤ 2 ^ 63) : (rowC f m e).foldl pushN (rowC f b m) = rowC f b e :=
  push_rows f _ hb (by rw [rowC_co]; exact cover_tile _ (Nat.le_refl _) hm he) (rowC_good f m e) he
theorem foldl_push_mem : ∀ (ns l : List (Nat × Nat × List UInt8)), (∀ x ∈ l, x.2.2.length = 32) → (∀ x ∈ ns, x.2.2.length = 32) → ∀ x ∈ ns.foldl pushN l, x.2.2.length = 32
  | [], _, hl, _ => hl
  | n :: ns, l, hl, hn => foldl_push_mem ns (pushN l n) (pushN_mem hl (hn n (by simp))) (fun x hx => hn x (by simp [hx]))
end Go.Proofs.YtgbafjmklefoiaaDoor
