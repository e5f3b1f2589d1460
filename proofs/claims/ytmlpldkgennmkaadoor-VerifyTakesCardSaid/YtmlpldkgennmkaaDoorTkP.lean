/- Plain law for VerifyTakes: the path by the definition leads to the MTH, the proof of two sizes to both. -/
import Derived.Test.YtmlpldkgennmkaaDoorVy
namespace Go.Proofs.YtmlpldkgennmkaaDoor
/-- MTH of a stretch of hashes -/
noncomputable def mthP (l : List (List UInt8)) : List UInt8 :=
  if _h : l.length < 2 then l.headD (sha []) else nd (mthP (l.take (half l.length))) (mthP (l.drop (half l.length)))
termination_by l.length
decreasing_by
  · have := half_pos (s := l.length) (by omega); simp; omega
  · have := half_pos (s := l.length) (by omega); simp; omega
theorem mthP_nil : mthP [] = sha [] := by rw [mthP, dif_pos (by simp)]; rfl
theorem mthP_one (x : List UInt8) : mthP [x] = x := by rw [mthP, dif_pos (by simp)]; rfl
theorem mthP_node {l : List (List UInt8)} (h : 2 ≤ l.length) : mthP l = nd (mthP (l.take (half l.length))) (mthP (l.drop (half l.length))) := by rw [mthP, dif_neg (by omega)]
theorem mthP_length (n : Nat) : ∀ l : List (List UInt8), l.length ≤ n → (∀ x ∈ l, x.length = 32) → (mthP l).length = 32 := by
  induction n with
  | zero =>
    intro l h _
    obtain rfl : l = [] := List.eq_nil_of_length_eq_zero (by omega)
    rw [mthP_nil]; exact sha_length _
  | succ n ih =>
    intro l h hx
    by_cases h2 : 2 ≤ l.length
    · rw [mthP_node h2]; exact nd_length _ _
    · match l, h2, hx with
      | [], _, _ => rw [mthP_nil]; exact sha_length _
      | [x], _, hx => rw [mthP_one]; exact hx x (by simp)
      | _ :: _ :: _, h2, _ => simp at h2
/-- the path of a leaf, by the definition -/
noncomputable def pathP (m : Nat) (l : List (List UInt8)) : List (List UInt8) :=
  if _h : l.length < 2 then [] else if m < half l.length then pathP m (l.take (half l.length)) ++ [mthP (l.drop (half l.length))] else pathP (m - half l.length) (l.drop (half l.length)) ++ [mthP (l.take (half l.length))]
termination_by l.length
decreasing_by
  · have := half_pos (s := l.length) (by omega); simp; omega
  · have := half_pos (s := l.length) (by omega); simp; omega
theorem pathP_small {m : Nat} {l : List (List UInt8)} (h : l.length < 2) : pathP m l = [] := by rw [pathP, dif_pos h]
theorem pathP_lt {m : Nat} {l : List (List UInt8)} (h : 2 ≤ l.length) (h' : m < half l.length) : pathP m l = pathP m (l.take (half l.length)) ++ [mthP (l.drop (half l.length))] := by rw [pathP, dif_neg (by omega), if_pos h']
theorem pathP_ge {m : Nat} {l : List (List UInt8)} (h : 2 ≤ l.length) (h' : ¬ m < half l.length) : pathP m l = pathP (m - half l.length) (l.drop (half l.length)) ++ [mthP (l.take (half l.length))] := by rw [pathP, dif_neg (by omega), if_neg h']
theorem pathP_len (n : Nat) : ∀ (l : List (List UInt8)) (m : Nat), l.length = n → m < n → (pathP m l).length = (hdirs m n).length := by
  induction n using Nat.strongRecOn with
  | _ n ih =>
    intro l m hl hm
    by_cases h2 : 2 ≤ n
    · have hp := half_pos h2
      by_cases h : m < half n
      · rw [pathP_lt (by omega) (by rw [hl]; exact h), hdirs_lt h2 h, List.length_append, List.length_append, hl, ih (half n) (by omega) _ m (by simp; omega) h]; rfl
      · rw [pathP_ge (by omega) (by rw [hl]; exact h), hdirs_ge h2 h, List.length_append, List.length_append, hl, ih (n - half n) (by omega) _ (m - half n) (by simp; omega) (by omega)]; rfl
    · rw [pathP_small (by omega), hdirs_small (by omega)]
      rfl
theorem pathP_32 (n : Nat) : ∀ (l : List (List UInt8)) (m : Nat), l.length = n → (∀ x ∈ l, x.length = 32) → ∀ x ∈ pathP m l, x.length = 32 := by
  induction n using Nat.strongRecOn with
  | _ n ih =>
    intro l m hl hx x hm
    by_cases h2 : 2 ≤ n
    · have hp := half_pos h2
      have ht : ∀ y ∈ l.take (half l.length), y.length = 32 := fun y hy => hx y (List.mem_of_mem_take hy)
      have hd : ∀ y ∈ l.drop (half l.length), y.length = 32 := fun y hy => hx y (List.mem_of_mem_drop hy)
      by_cases h : m < half l.length
      · rw [pathP_lt (by omega) h, List.mem_append, List.mem_singleton] at hm
        rcases hm with hm | rfl
        · exact ih (half n) (by omega) (l.take (half l.length)) m (by simp [hl]; omega) ht x hm
        · exact mthP_length _ _ (Nat.le_refl _) hd
      · rw [pathP_ge (by omega) h, List.mem_append, List.mem_singleton] at hm
        rcases hm with hm | rfl
        · exact ih (n - half n) (by omega) (l.drop (half l.length)) _ (by simp [hl]) hd x hm
        · exact mthP_length _ _ (Nat.le_refl _) ht
    · rw [pathP_small (by omega)] at hm
      cases hm
theorem climb_path (n : Nat) : ∀ (l : List (List UInt8)) (m : Nat), l.length = n → (hm : m < l.length) → climb nd l[m] (hdirs m n) (pathP m l) = mthP l := by
  induction n using Nat.strongRecOn with
  | _ n ih =>
    intro l m hl hm
    by_cases h2 : 2 ≤ n
    · have hp := half_pos h2
      rw [mthP_node (by omega)]
      by_cases h : m < half n
      · have ht : (l.take (half n)).length = half n := by simp; omega
        rw [pathP_lt (by omega) (by rw [hl]; exact h), hdirs_lt h2 h, hl, climb_snoc nd _ _ (pathP_len (half n) _ m ht h).symm]
        have := ih (half n) (by omega) (l.take (half n)) m ht (by omega)
        rw [List.getElem_take] at this
        rw [this]; rfl
      · have ht : (l.drop (half n)).length = n - half n := by simp [hl]
        rw [pathP_ge (by omega) (by rw [hl]; exact h), hdirs_ge h2 h, hl, climb_snoc nd _ _ (pathP_len (n - half n) _ (m - half n) ht (by omega)).symm]
        have := ih (n - half n) (by omega) (l.drop (half n)) (m - half n) ht (by omega)
        rw [List.getElem_drop] at this
        simp only [show half n + (m - half n) = m by omega] at this
        rw [this]; rfl
    · match l, hl, hm with
      | [x], rfl, hm =>
        obtain rfl : m = 0 := by simpa using hm
        rw [pathP_small (by simp), hdirs_small (by simp), mthP_one]; rfl
      | _ :: _ :: _, hl, _ => simp at hl; omega
/-- the proof of two sizes, by the definition -/
noncomputable def subP (o : Nat) (l : List (List UInt8)) (b : Bool) : List (List UInt8) :=
  if _h : l.length ≤ o ∨ l.length < 2 then (if b then [] else [mthP l]) else if o ≤ half l.length then subP o (l.take (half l.length)) b ++ [mthP (l.drop (half l.length))] else subP (o - half l.length) (l.drop (half l.length)) false ++ [mthP (l.take (half l.length))]
termination_by l.length
decreasing_by
  · have := half_pos (s := l.length) (by omega); simp; omega
  · have := half_pos (s := l.length) (by omega); simp; omega
theorem subP_same {o : Nat} {l : List (List UInt8)} {b : Bool} (h : l.length ≤ o) : subP o l b = if b then [] else [mthP l] := by rw [subP, dif_pos (.inl h)]
theorem subP_le {o : Nat} {l : List (List UInt8)} {b : Bool} (h : 2 ≤ l.length) (ho : o < l.length) (h' : o ≤ half l.length) : subP o l b = subP o (l.take (half l.length)) b ++ [mthP (l.drop (half l.length))] := by rw [subP, dif_neg (by omega), if_pos h']
theorem subP_gt {o : Nat} {l : List (List UInt8)} {b : Bool} (h : 2 ≤ l.length) (ho : o < l.length) (h' : ¬ o ≤ half l.length) : subP o l b = subP (o - half l.length) (l.drop (half l.length)) false ++ [mthP (l.take (half l.length))] := by rw [subP, dif_neg (by omega), if_neg h']
theorem subP_32 (n : Nat) : ∀ (l : List (List UInt8)) (o : Nat) (b : Bool), l.length = n → (∀ x ∈ l, x.length = 32) → ∀ x ∈ subP o l b, x.length = 32 := by
  induction n using Nat.strongRecOn with
  | _ n ih =>
    intro l o b hl hx x hm
    by_cases h2 : 2 ≤ n ∧ o < n
    · have hp := half_pos h2.1
      have ht : ∀ y ∈ l.take (half l.length), y.length = 32 := fun y hy => hx y (List.mem_of_mem_take hy)
      have hd : ∀ y ∈ l.drop (half l.length), y.length = 32 := fun y hy => hx y (List.mem_of_mem_drop hy)
      by_cases h : o ≤ half l.length
      · rw [subP_le (by omega) (by omega) h, List.mem_append, List.mem_singleton] at hm
        rcases hm with hm | rfl
        · exact ih (half n) (by omega) (l.take (half l.length)) o b (by simp [hl]; omega) ht x hm
        · exact mthP_length _ _ (Nat.le_refl _) hd
      · rw [subP_gt (by omega) (by omega) h, List.mem_append, List.mem_singleton] at hm
        rcases hm with hm | rfl
        · exact ih (n - half n) (by omega) (l.drop (half l.length)) _ false (by simp [hl]) hd x hm
        · exact mthP_length _ _ (Nat.le_refl _) ht
    · rw [subP, dif_pos (by omega)] at hm
      split at hm
      · cases hm
      · rw [List.mem_singleton] at hm
        rw [hm]; exact mthP_length _ _ (Nat.le_refl _) hx
theorem subP_law (n : Nat) : ∀ (l : List (List UInt8)) (o : Nat) (b : Bool) (before : List UInt8), l.length = n → 0 < o → o ≤ n → (b = true → before = mthP (l.take o)) →
    SubOk b (hsdirs o n) (subP o l b) ∧ subX b before (hsdirs o n) (subP o l b) = mthP (l.take o) ∧ subY b before (hsdirs o n) (subP o l b) = mthP l := by
  induction n using Nat.strongRecOn with
  | _ n ih =>
    intro l o b before hl h0 ho hb
    by_cases he : o = n
    · subst he
      rw [hsdirs_same (Nat.le_refl _), subP_same (by omega), List.take_of_length_le (by omega)]
      rw [List.take_of_length_le (by omega)] at hb
      cases b with
      | true => rw [hb rfl]; exact ⟨rfl, rfl, rfl⟩
      | false => exact ⟨rfl, rfl, rfl⟩
    · have h2 : 2 ≤ n := by omega
      have hp := half_pos h2
      obtain ⟨k, hk⟩ : ∃ k, k = half n := ⟨_, rfl⟩
      by_cases h : o ≤ half n
      · rw [hsdirs_le h2 (by omega) h, subP_le (by omega) (by omega) (by rw [hl]; exact h), hl, ← hk]
        rw [← hk] at hp h
        obtain ⟨q1, q2, q3⟩ := ih k (by omega) (l.take k) o b before (by simp; omega) h0 h (by rw [List.take_take, Nat.min_eq_left h]; exact hb)
        rw [List.take_take, Nat.min_eq_left h] at q2
        have hs : SubOk b (hsdirs o k ++ [false]) (subP o (l.take k) b ++ [mthP (l.drop k)]) := by
          unfold SubOk at q1 ⊢
          rw [show (hsdirs o k ++ [false]).all (!·) = (hsdirs o k).all (!·) by simp]
          simp only [List.length_append, List.length_singleton]
          omega
        obtain ⟨_, r2, r3⟩ := sub_false (before := before) hs
        refine ⟨hs, r2.trans q2, r3.trans ?_⟩
        rw [q3, mthP_node (l := l) (by omega), hl, ← hk]
      · rw [hsdirs_gt h2 (by omega) h, subP_gt (by omega) (by omega) (by rw [hl]; exact h), hl, ← hk]
        obtain ⟨e, he2⟩ := HalfOf.ex n h2
        have hh := half_of he2
        have hho : half o = k := by
          rw [hk, hh]
          exact half_of ⟨by omega, by have := he2.le; omega⟩
        rw [← hk] at hp h
        obtain ⟨q1, q2, q3⟩ := ih (n - k) (by omega) (l.drop k) (o - k) false before (by simp; omega) (by omega) (by omega) (fun h => by cases h)
        have hs : SubOk b (hsdirs (o - k) (n - k) ++ [true]) (subP (o - k) (l.drop k) false ++ [mthP (l.take k)]) := by
          unfold SubOk at q1 ⊢
          rw [show (b && (hsdirs (o - k) (n - k) ++ [true]).all (!·)) = false by simp]
          simp only [List.length_append, List.length_singleton, Bool.false_and] at q1 ⊢
          omega
        obtain ⟨_, r2, r3⟩ := sub_true (before := before) hs
        refine ⟨hs, r2.trans ?_, r3.trans ?_⟩
        · rw [q2, mthP_node (l := l.take o) (by simp; omega)]
          have e1 : (l.take o).length = o := by simp; omega
          rw [e1, hho, List.take_take, Nat.min_eq_left (by omega), List.drop_take]
        · rw [q3, mthP_node (l := l) (by omega), hl, ← hk]
/-- what Consistency says of the proof, and of one hash more or fewer -/
theorem consV_sub (A : Nat → Addr) (l : List (List UInt8)) (o : Nat) (h0 : 0 < o) (ho : o ≤ l.length) (hs : l.length ≤ 9223372036854775808) :
    consV A o l.length (mthP (l.take o)) (mthP l) (subP o l true) = .nilIface := by
  unfold consV
  rw [if_neg (by omega)]
  by_cases he : o = l.length
  · rw [if_pos he, he, subP_same (Nat.le_refl _), List.take_of_length_le (Nat.le_refl _), if_pos ⟨rfl, rfl⟩]
  · rw [if_neg he]
    obtain ⟨h1, h2, h3⟩ := subP_law l.length l o true (mthP (l.take o)) rfl h0 ho (fun _ => rfl)
    rw [if_pos]
    unfold conOk
    rw [conS_sub h1]
    have h4 := subS_len (before := mthP (l.take o)) h1
    unfold subX at h2
    unfold subY at h3
    generalize subS true (mthP (l.take o)) (hsdirs o l.length) (subP o l true) = q at h2 h3 h4
    obtain ⟨f, r⟩ := q
    show (r.length == (hsdirs o l.length).length && (climbO nd f (hsdirs o l.length) r == mthP (l.take o) && climb nd f (hsdirs o l.length) r == mthP l)) = true
    rw [h2, h3, h4]
    simp
theorem consV_len (A : Nat → Addr) (l : List (List UInt8)) (o : Nat) (h0 : 0 < o) (ho : o ≤ l.length) (hs : l.length ≤ 9223372036854775808) (ps : List (List UInt8)) (hp : ps.length ≠ (subP o l true).length) (x y : List UInt8) :
    consV A o l.length x y ps = errVal A 9 := by
  unfold consV
  rw [if_neg (by omega)]
  by_cases he : o = l.length
  · rw [if_pos he]
    rw [he, subP_same (Nat.le_refl _)] at hp
    rw [if_neg]
    rintro ⟨rfl, _⟩
    exact hp rfl
  · rw [if_neg he]
    obtain ⟨h1, _, _⟩ := subP_law l.length l o true (mthP (l.take o)) rfl h0 ho (fun _ => rfl)
    rw [if_neg]
    rw [con_not]
    · simp
    · intro h
      unfold SubOk at h h1
      omega
theorem consV_range (A : Nat → Addr) (n : Nat) (ps : List (List UInt8)) (x y : List UInt8) : consV A (n + 1) n x y ps = errVal A 4 := by
  unfold consV
  rw [if_pos (by omega)]
end Go.Proofs.YtmlpldkgennmkaaDoor
