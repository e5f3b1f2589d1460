/- compact in plain numbers: what the document settles is what the program pushes. cartularylaw01.SameCoords. cartularylaw06.alive. The document's own answers of chapter 06, walked: May, Span, Parent, Sibling, Children. -/
import Derived.Test.YtgbafjmklefoiaaGreatDoorZ05
import Derived.Test.YtgbafjmklefoiaaGreatDoorZ10
import Derived.Test.YtgbafjmklefoiaaGreatDoorZ01
section
namespace Go.Proofs.YtgbafjmklefoiaaGreatDoor
/-- the first neighbours that are both halves of one are joined -/
def joinF : List (Nat × Nat × List UInt8) → Option (List (Nat × Nat × List UInt8))
  | a :: b :: t => if joinC a b then some (upC1 a b :: t) else (joinF (b :: t)).map (a :: ·)
  | _ => none
/-- as long as any can be -/
def setlF : Nat → List (Nat × Nat × List UInt8) → List (Nat × Nat × List UInt8)
  | 0, l => l
  | k + 1, l => match joinF l with | none => l | some l' => setlF k l'
def NJ : List (Nat × Nat × List UInt8) → Prop
  | a :: b :: t => joinC a b = false ∧ NJ (b :: t)
  | _ => True
theorem joinF_none : ∀ {l : List (Nat × Nat × List UInt8)}, NJ l → joinF l = none
  | [], _ => rfl
  | [_], _ => rfl
  | a :: b :: t, h => by
    obtain ⟨h1, h2⟩ := h
    unfold joinF
    rw [h1, joinF_none h2]
    rfl
theorem joinF_some : ∀ (l : List (Nat × Nat × List UInt8)) (a n : Nat × Nat × List UInt8) (t : List (Nat × Nat × List UInt8)), NJ (l ++ [a]) → joinC a n = true → joinF (l ++ a :: n :: t) = some (l ++ upC1 a n :: t)
  | [], a, n, t, _, h => by
    show joinF (a :: n :: t) = _
    unfold joinF
    rw [if_pos h]; rfl
  | [x], a, n, t, hn, h => by
    have h1 : joinC x a = false := hn.1
    show joinF (x :: a :: n :: t) = _
    unfold joinF
    rw [h1, show joinF (a :: n :: t) = some (upC1 a n :: t) from joinF_some [] a n t trivial h]
    rfl
  | x :: y :: l, a, n, t, hn, h => by
    have h1 : joinC x y = false := hn.1
    have h2 := joinF_some (y :: l) a n t hn.2 h
    show joinF (x :: y :: (l ++ a :: n :: t)) = _
    unfold joinF
    rw [h1, show joinF (y :: (l ++ a :: n :: t)) = some (y :: l ++ upC1 a n :: t) from h2]
    rfl
theorem joinF_len : ∀ {l l' : List (Nat × Nat × List UInt8)}, joinF l = some l' → l'.length + 1 = l.length
  | [], _, h => by cases h
  | [_], _, h => by cases h
  | a :: b :: t, l', h => by
    unfold joinF at h
    split at h
    · cases h; simp
    · obtain ⟨m, h1, rfl⟩ := Option.map_eq_some_iff.1 h
      have := joinF_len h1
      simp at this ⊢
      omega
theorem setlF_stop (k : Nat) {l : List (Nat × Nat × List UInt8)} (h : joinF l = none) : setlF k l = l := by
  cases k with
  | zero => rfl
  | succ k => unfold setlF; rw [h]
theorem setlF_step {k : Nat} {l l' : List (Nat × Nat × List UInt8)} (h : joinF l = some l') : setlF (k + 1) l = setlF k l' := by
  show (match joinF l with | none => l | some l' => setlF k l') = _
  rw [h]
theorem NJ_snoc : ∀ {l : List (Nat × Nat × List UInt8)} {a n : Nat × Nat × List UInt8}, NJ (l ++ [a]) → joinC a n = false → NJ (l ++ [a, n])
  | [], _, _, _, h => ⟨h, trivial⟩
  | [_], _, _, h, h' => ⟨h.1, h', trivial⟩
  | _ :: z :: l, _, _, h, h' => ⟨h.1, NJ_snoc (l := z :: l) h.2 h'⟩
theorem NJ_init : ∀ {l : List (Nat × Nat × List UInt8)} {a : Nat × Nat × List UInt8}, NJ (l ++ [a]) → NJ l
  | [], _, _ => trivial
  | [_], _, _ => trivial
  | _ :: z :: l, _, h => ⟨h.1, NJ_init (l := z :: l) h.2⟩
theorem NJ_app : ∀ {l : List (Nat × Nat × List UInt8)} {a : Nat × Nat × List UInt8} {t : List (Nat × Nat × List UInt8)}, NJ (l ++ [a]) → NJ (a :: t) → NJ (l ++ a :: t)
  | [], _, _, _, h => h
  | [_], _, _, h, h' => ⟨h.1, h'⟩
  | _ :: z :: l, _, _, h, h' => ⟨h.1, NJ_app (l := z :: l) h.2 h'⟩
theorem NJ_tail {a : Nat × Nat × List UInt8} : ∀ {t : List (Nat × Nat × List UInt8)}, NJ (a :: t) → NJ t
  | [], _ => trivial
  | _ :: _, h => h.2
theorem foldl_stay : ∀ (ns l : List (Nat × Nat × List UInt8)) (a : Nat × Nat × List UInt8), NJ (a :: ns) → ns.foldl pushN (l ++ [a]) = l ++ a :: ns
  | [], l, a, _ => rfl
  | x :: t, l, a, h => by
    have h1 : joinC a x = false := h.1
    show t.foldl pushN (pushN (l ++ [a]) x) = _
    rw [pushN_snoc, h1, if_neg (by simp), foldl_stay t (l ++ [a]) x h.2]
    simp
theorem settle_push : ∀ (q : Nat) (ns l : List (Nat × Nat × List UInt8)) (n : Nat × Nat × List UInt8) (k : Nat), l.length + ns.length = q → q ≤ k → NJ l → NJ ns → setlF k (l ++ n :: ns) = ns.foldl pushN (pushN l n) := by
  intro q
  induction q with
  | zero =>
    intro ns l n k hq _ _ _
    obtain rfl : l = [] := List.length_eq_zero_iff.1 (by omega)
    obtain rfl : ns = [] := List.length_eq_zero_iff.1 (by omega)
    exact setlF_stop k rfl
  | succ q ih =>
    intro ns l n k hq hk hl hns
    obtain ⟨k, rfl⟩ : ∃ k', k = k' + 1 := ⟨k - 1, by omega⟩
    have rest : (pushN l n = l ++ [n]) → NJ (l ++ [n]) → setlF (k + 1) (l ++ n :: ns) = ns.foldl pushN (pushN l n) := fun e1 hn => by
      cases ns with
      | nil => rw [e1]; exact setlF_stop _ (joinF_none hn)
      | cons x t =>
        by_cases hx : joinC n x = true
        · rw [setlF_step (joinF_some l n x t hn hx), ih t l (upC1 n x) k (by simp at hq; omega) (by omega) hl (NJ_tail hns)]
          show _ = t.foldl pushN (pushN (pushN l n) x)
          rw [e1, pushN_snoc, if_pos hx]
        · have hx' : joinC n x = false := by simpa using hx
          have hnx : NJ (n :: x :: t) := ⟨hx', hns⟩
          rw [setlF_stop _ (joinF_none (NJ_app hn hnx)), e1, foldl_stay (x :: t) l n hnx]
    rcases List.eq_nil_or_concat l with rfl | ⟨l', a, rfl⟩
    · exact rest rfl trivial
    · rw [List.concat_eq_append] at *
      by_cases ha : joinC a n = true
      · have h1 := joinF_some l' a n ns hl ha
        rw [show l' ++ [a] ++ n :: ns = l' ++ a :: n :: ns by simp, setlF_step h1, ih ns l' (upC1 a n) k (by simp at hq; omega) (by omega) (NJ_init hl) hns, pushN_snoc, if_pos ha]
      · have ha' : joinC a n = false := by simpa using ha
        exact rest (by rw [pushN_snoc, if_neg ha]) (by have := NJ_snoc hl ha'; simpa using this)
/-- and behind a join -/
theorem settle_all {l : List (Nat × Nat × List UInt8)} : ∀ {ns : List (Nat × Nat × List UInt8)} {k : Nat}, l.length + ns.length ≤ k → NJ l → NJ ns → setlF k (l ++ ns) = ns.foldl pushN l
  | [], k, _, h, _ => by rw [List.append_nil]; exact setlF_stop k (joinF_none h)
  | n :: ns, k, hk, h, hn => settle_push (l.length + ns.length) ns l n k rfl (by simp at hk; omega) h (NJ_tail hn)
theorem NJ_of : ∀ {l : List (Nat × Nat × List UInt8)} {b e : Nat}, Tile b e (l.map coC) → Norm (l.map coC) → e ≤ 2 ^ 63 → NJ l
  | [], _, _, _, _, _ => trivial
  | [_], _, _, _, _, _ => trivial
  | a :: n :: t, b, e, ht, hn, he => by
    obtain ⟨h1, h2, h3⟩ := ht
    obtain ⟨h4, h5, h6⟩ := id h3
    have hj := join_iff (l := []) (y := coC a) (x := coC n) (a := b) (e := b + 2 ^ (coC a).1 + 2 ^ (coC n).1) ⟨h1, h2, h4, h5, rfl⟩ (Nat.le_trans h6.le he)
    refine ⟨?_, NJ_of h3 hn.2 he⟩
    have : ¬ joinC a n = true := fun h => hn.1 (hj.1 (by
      unfold joinC at h
      simp only [Bool.and_eq_true, decide_eq_true_eq] at h
      exact ⟨h.1.2, h.1.1, h.2.1.symm, h.2.2.symm⟩))
    simpa using this
theorem joinC_co {a a' n n' : Nat × Nat × List UInt8} (h1 : coC a = coC a') (h2 : coC n = coC n') : joinC a n = joinC a' n' := by
  unfold coC at h1 h2
  simp only [Prod.mk.injEq] at h1 h2
  unfold joinC
  rw [h1.1, h1.2, h2.1, h2.2]
theorem upC1_co {a a' n n' : Nat × Nat × List UInt8} (h1 : coC a = coC a') : coC (upC1 a n) = coC (upC1 a' n') := by
  unfold coC at h1
  simp only [Prod.mk.injEq] at h1
  unfold coC upC1
  simp only [h1.1, h1.2]
theorem pushR_co : ∀ {l l' : List (Nat × Nat × List UInt8)} {n n' : Nat × Nat × List UInt8}, l.map coC = l'.map coC → coC n = coC n' → (pushR l n).map coC = (pushR l' n').map coC
  | [], [], n, n', _, h => by simp [pushR, h]
  | [], _ :: _, _, _, h, _ => by simp at h
  | _ :: _, [], _, _, h, _ => by simp at h
  | a :: l, a' :: l', n, n', h, hn => by
    simp only [List.map_cons, List.cons.injEq] at h
    unfold pushR
    rw [joinC_co h.1 hn]
    split
    · exact pushR_co h.2 (upC1_co h.1)
    · simp [h.1, h.2, hn]
theorem pushN_co {l l' : List (Nat × Nat × List UInt8)} {n n' : Nat × Nat × List UInt8} (h : l.map coC = l'.map coC) (hn : coC n = coC n') : (pushN l n).map coC = (pushN l' n').map coC := by
  unfold pushN
  rw [List.map_reverse, List.map_reverse]
  exact congrArg List.reverse (pushR_co (l := l.reverse) (l' := l'.reverse) (by simp only [List.map_reverse, h]) hn)
theorem foldl_co : ∀ {ns ns' l l' : List (Nat × Nat × List UInt8)}, ns.map coC = ns'.map coC → l.map coC = l'.map coC → (ns.foldl pushN l).map coC = (ns'.foldl pushN l').map coC
  | [], [], _, _, _, h => h
  | [], _ :: _, _, _, h, _ => by simp at h
  | _ :: _, [], _, _, h, _ => by simp at h
  | n :: ns, n' :: ns', l, l', h, hl => by
    simp only [List.map_cons, List.cons.injEq] at h
    show (ns.foldl pushN (pushN l n)).map coC = (ns'.foldl pushN (pushN l' n')).map coC
    exact foldl_co h.2 (pushN_co hl h.1)
/-- a range's stretch and its trees -/
def StC (B E : Nat) (l : List (Nat × Nat × List UInt8)) : Prop := B ≤ E ∧ (E ≤ 2 ^ 63 ∨ B = E) ∧ l.map coC = coverN B E
theorem StC.len {B E : Nat} {l : List (Nat × Nat × List UInt8)} (h : StC B E l) : l.length ≤ (coverN B E).length := by
  have := congrArg List.length h.2.2
  rw [List.length_map] at this
  omega
theorem StC.nj {B E : Nat} {l : List (Nat × Nat × List UInt8)} (h : StC B E l) : NJ l := by
  obtain ⟨h1, h2, h3⟩ := h
  rcases h2 with h2 | h2
  · exact NJ_of (b := B) (e := E) (by rw [h3]; exact cover_tile (E - B) (Nat.le_refl _) h1 h2) (by rw [h3]; exact cover_norm (E - B) (Nat.le_refl _) h2) h2
  · subst h2
    rw [coverN_nil (Nat.lt_irrefl _)] at h3
    rw [List.map_eq_nil_iff.1 h3]
    trivial
theorem StC.new (n : Nat) : StC n n [] := ⟨Nat.le_refl _, .inr rfl, by rw [coverN_nil (Nat.lt_irrefl _)]; rfl⟩
theorem StC.push {B E : Nat} {l : List (Nat × Nat × List UInt8)} (h : StC B E l) (hE : E < 2 ^ 63) (x : List UInt8) : StC B (E + 1) (pushN l (0, E, x)) := by
  refine ⟨by have := h.1; omega, .inl (by omega), ?_⟩
  have e := pushN_co (l := l) (n := (0, E, x)) (l' := rowC (fun _ => []) B E) (n' := (0, E, [])) (by rw [h.2.2, rowC_co]) rfl
  have e2 : pushN (rowC (fun _ => []) B E) (0, E, []) = rowC (fun _ => []) B (E + 1) := push_leaf (fun _ => []) h.1 hE
  rw [e, e2, rowC_co]
theorem StC.join {B E E2 : Nat} {l ns : List (Nat × Nat × List UInt8)} (h : StC B E l) (h2 : StC E E2 ns) : StC B E2 (ns.foldl pushN l) := by
  rcases h2.2.1 with hE | hE
  · refine ⟨by have := h.1; have := h2.1; omega, .inl hE, ?_⟩
    have e := foldl_co (ns := ns) (l := l) (l' := rowC (fun _ => []) B E) (ns' := rowC (fun _ => []) E E2) (by rw [h2.2.2, rowC_co]) (by rw [h.2.2, rowC_co])
    rw [e, join_rows _ h.1 h2.1 hE, rowC_co]
  · subst hE
    have := h2.2.2
    rw [coverN_nil (Nat.lt_irrefl _)] at this
    rw [List.map_eq_nil_iff.1 this]
    exact h
end Go.Proofs.YtgbafjmklefoiaaGreatDoor
end
section
namespace Go.Proofs.YtgbafjmklefoiaaGreatDoor
open Go.RowKit
/-- a value that reads as trees -/
def Coords (w : World) (v : Value) (l : List (Nat × Nat)) : Prop :=
  ∃ (a : Option Addr) (cap : Nat), v = .slice a l.length cap ∧ l.length ≤ cap ∧ cap ≤ maxLen ∧
    (l ≠ [] → ∃ B off, a = some ⟨B, off, none⟩ ∧ B < w.heap.size ∧ ∀ i, (h : i < l.length) → w.cell? ⟨B, off + i * 2, none⟩ = some (.int .u8 (l[i].1 : Int)) ∧ w.cell? ⟨B, off + i * 2 + 1, none⟩ = some (.int .u64 (l[i].2 : Int)))
end Go.Proofs.YtgbafjmklefoiaaGreatDoor
end
section
namespace Go.Proofs.YtgbafjmklefoiaaGreatDoor
open Go.RowKit
theorem Coords.below {w w' : World} {v : Value} {l : List (Nat × Nat)} (h : Coords w v l) (k : Below w.heap.size w w') : Coords w' v l := by
  obtain ⟨a, cap, rfl, h1, h2, h3⟩ := h
  refine ⟨a, cap, rfl, h1, h2, fun hl => ?_⟩
  obtain ⟨B, off, rfl, hB, hc⟩ := h3 hl
  exact ⟨B, off, rfl, Nat.lt_of_lt_of_le hB k.size, fun i hi => ⟨(k.cell (p := ⟨B, off + i * 2, none⟩) hB).trans (hc i hi).1, (k.cell (p := ⟨B, off + i * 2 + 1, none⟩) hB).trans (hc i hi).2⟩⟩
/-- a struct of two fields in a block of its own -/
def At (w : World) (n : Nat) (T : TypeId) (a b : Value) : Prop := w.heap[n]? = some (.cells #[a, b] T (0, 0))
theorem At.lt {w : World} {n : Nat} {T : TypeId} {a b : Value} (h : At w n T a b) : n < w.heap.size := (Array.getElem?_eq_some_iff.1 h).1
theorem At.below {w w' : World} {n : Nat} {T : TypeId} {a b : Value} (h : At w n T a b) (k : Below w.heap.size w w') : At w' n T a b := (k.block n h.lt).trans h
theorem At.alloc {w : World} {n : Nat} {T : TypeId} {a b : Value} (h : At w n T a b) (o : Obj) : At (w.alloc o) n T a b := h.below (below_new _ _)
theorem At.new (w : World) (T : TypeId) (a b : Value) : At (w.alloc (.cells #[a, b] T)) w.heap.size T a b := heap_alloc_new _ _
theorem At.cells {w : World} {n : Nat} {T : TypeId} {a b : Value} (h : At w n T a b) : w.cell? ⟨n, 0, none⟩ = some a ∧ w.cell? ⟨n, 1, none⟩ = some b ∧ w.frozen? ⟨n, 0, none⟩ = false ∧ w.frozen? ⟨n, 1, none⟩ = false := two_cells h
/-- what every law of the chapter keeps in mind of the world at its beginning -/
structure Seed (W w : World) : Prop where
  below : Below W.heap.size W w
  tab : TabZ w
  lt : 4 < w.heap.size
theorem Seed.next {W w w' : World} (h : Seed W w) (k : Below w.heap.size w w') : Seed W w' :=
  ⟨h.below.trans (k.mono h.below.size), h.tab.below h.lt k, Nat.lt_of_lt_of_le h.lt k.size⟩
theorem Seed.alloc {W w : World} (h : Seed W w) (o : Obj) : Seed W (w.alloc o) := h.next (below_new _ _)
end Go.Proofs.YtgbafjmklefoiaaGreatDoor
end
section
namespace Go.Proofs.YtgbafjmklefoiaaGreatDoor
open Go.RowKit
set_option maxHeartbeats 800000 in
theorem rmay_any (w : World) (L I : Nat) : Calls Tryz.prog 139 #[cv L I] w fun e w' => e = .returned (.bool (mayB L I)) ∧ Below w.heap.size w w' := by
  unfold cv
  go_enter Tryz.func139, Tryz.ntmps139
  by_cases h : L ≤ 63
  · have hd := may_dec (I := I) h
    go_wp2_with fail
    go_ret
    exact ⟨rfl, below_new _ _⟩
  · rw [may_not h]
    go_wp2_with fail
    go_ret
    exact ⟨rfl, below_new _ _⟩
theorem mul_fits {L I : Nat} (h : mayB L I = true) : IntKind.u64.wrap ((I : Int) * (2 : Int) ^ L) = ((I * 2 ^ L : Nat) : Int) := by
  have := may_begin h
  have hp := Nat.two_pow_pos L
  exact wrap_nat (n := I * 2 ^ L) (by simp) (by omega)
theorem add_fits {L I : Nat} (h : mayB L I = true) : IntKind.u64.wrap (((I * 2 ^ L : Nat) : Int) + (2 : Int) ^ L) = (((I + 1) * 2 ^ L : Nat) : Int) := by
  have := may_end h
  exact wrap_nat (n := (I + 1) * 2 ^ L) (by rw [Nat.succ_mul]; simp) (by omega)
theorem one_fits {L : Nat} (h : L ≤ 63) : IntKind.u64.wrap ((2 : Int) ^ L) = (2 : Int) ^ L := by
  have hp : 2 ^ L ≤ 2 ^ 63 := Nat.pow_le_pow_right (by decide) h
  exact (wrap_nat (n := 2 ^ L) (by simp) (by omega)).trans (by simp)
set_option maxHeartbeats 800000 in
theorem rspan_any (w : World) (L I : Nat) : Calls Tryz.prog 128 #[cv L I] w fun e w' => e = .returned (.tuple #[sv (spB L I) (spE L I), .bool (mayB L I)]) ∧ Below w.heap.size w w' := by
  have hm := fun w => rmay_any w L I
  unfold cv at hm ⊢
  have HM := Bx.mk hm; clear hm
  go_enter Tryz.func128, Tryz.ntmps128
  go_wp2_with fail
  refine (HM.out _).mono ?_
  rintro e w1 ⟨rfl, hb⟩
  obtain ⟨h1, h2, hb1, hs1⟩ := two_new hb
  obtain ⟨a1, a2, a3, a4⟩ := two_cells h1
  obtain ⟨b1, b2, b3, b4⟩ := two_cells h2
  have HB := Bx.mk hb1; have HS := Bx.mk hs1; have H2 := Bx.mk h2
  clear hb h1 h2 hb1 hs1
  by_cases h : mayB L I = true
  · rw [h]
    have hL := ((mayB_iff _ _).1 h).1
    have e1 := mul_fits h; have e2 := add_fits h; have e3 := one_fits hL
    obtain ⟨s1, s2⟩ := sp_of h
    rw [← s1, ← s2] at e2; rw [← s1] at e1
    clear s1 s2
    go_wp2_with fail
    refine bodyPost_ret (res_two rfl _ _ (w.heap.size + 1) _ _ _ _ rfl (two_setC H2.out _ _) Tryz.underlying54 sizeS) rfl ⟨?_, (HB.out.setCell (Nat.le_succ _) _).setCell (Nat.le_succ _) _⟩
    rw [h]
    rfl
  · rw [Bool.eq_false_iff.2 h]
    go_wp2_with fail
    refine bodyPost_ret (res_two rfl _ _ (w.heap.size + 1) _ _ _ _ rfl (two_setC H2.out _ _) Tryz.underlying54 sizeS) rfl ⟨?_, (HB.out.setCell (Nat.le_succ _) _).setCell (Nat.le_succ _) _⟩
    rw [show spB L I = 0 by unfold spB; rw [if_neg h], show spE L I = 0 by unfold spE; rw [if_neg h], Bool.eq_false_iff.2 h]
    rfl
set_option maxHeartbeats 1600000 in
set_option maxRecDepth 100000 in
theorem rparent_any (w : World) (L I : Nat) (hI : I < 2 ^ 64) : Calls Tryz.prog 143 #[cv L I] w fun e w' => e = .returned (.tuple #[cv (upL L I) (upI L I), .bool (upK L I)]) ∧ Below w.heap.size w w' := by
  have hm := fun w => rmay_any w L I
  have e1 : IntKind.u64.wrap ((I : Int) / 2) = (I : Int) / 2 := (wrap_nat (n := I / 2) (by simp) (by omega)).trans (by simp)
  unfold cv at hm ⊢
  by_cases h : mayB L I = true
  · have hL := ((mayB_iff _ _).1 h).1
    rw [h] at hm
    have HM := Bx.mk hm; clear hm
    by_cases h63 : (L : Int) = 63
    · have hk : upK L I = false := by simp [upK]; omega
      have H63 := Bx.mk h63; clear h63
      go_enter Tryz.func143, Tryz.ntmps143
      go_wp2_with fail
      refine (HM.out _).mono ?_
      rintro e w1 ⟨rfl, hb⟩
      have h63 := H63.out
      obtain ⟨h1, h2, h3, hb1, hs1⟩ := three_new hb
      obtain ⟨a1, a2, a3, a4⟩ := two_cells h1
      obtain ⟨b1, b2, b3, b4⟩ := two_cells h2
      obtain ⟨c1, c2, c3, c4⟩ := two_cells h3
      have HB := Bx.mk hb1; have HS := Bx.mk hs1; have H2 := Bx.mk h2; have H3 := Bx.mk h3
      clear hb h1 h2 h3 hb1 hs1
      go_wp2_with fail
      refine bodyPost_ret (res_two rfl _ _ (w.heap.size + 1) _ _ _ _ rfl (two_setC H2.out _ _) Tryz.underlying103 sizeC) rfl ⟨?_, (HB.out.setCell (Nat.le_succ _) _).setCell (Nat.le_succ _) _⟩
      rw [show upL L I = 0 by unfold upL; rw [if_neg (by rw [hk]; decide)], show upI L I = 0 by unfold upI; rw [if_neg (by rw [hk]; decide)], hk]
      rfl
    · have hk : upK L I = true := upK_iff.2 ⟨h, by omega⟩
      have hm2 := fun w => rmay_any w (L + 1) (I / 2)
      rw [up_may h (by omega)] at hm2
      unfold cv at hm2
      rw [show ((L + 1 : Nat) : Int) = (L : Int) + 1 by simp, show ((I / 2 : Nat) : Int) = (I : Int) / 2 by simp] at hm2
      have HM2 := Bx.mk hm2; clear hm2
      go_enter Tryz.func143, Tryz.ntmps143
      go_wp2_with fail
      refine (HM.out _).mono ?_
      rintro e w1 ⟨rfl, hb⟩
      obtain ⟨h1, h2, h3, hb1, hs1⟩ := three_new hb
      obtain ⟨a1, a2, a3, a4⟩ := two_cells h1
      obtain ⟨b1, b2, b3, b4⟩ := two_cells h2
      obtain ⟨c1, c2, c3, c4⟩ := two_cells h3
      have HB := Bx.mk hb1; have HS := Bx.mk hs1; have H2 := Bx.mk h2; have H3 := Bx.mk h3
      clear hb h1 h2 h3 hb1 hs1
      go_wp2_with fail
      refine (HM2.out _).mono ?_
      rintro e w2 ⟨rfl, hb2⟩
      have hs2 := hb2.size
      have g2 := (hb2.block _ (by have := HS.out; omega)).trans H2.out
      have g3 := (hb2.block _ (by have := HS.out; omega)).trans H3.out
      have gb := HB.out.trans (hb2.mono (by have := HS.out; omega))
      obtain ⟨b1, b2, b3, b4⟩ := two_cells g2
      obtain ⟨c1, c2, c3, c4⟩ := two_cells g3
      have G2 := Bx.mk g2; have GB := Bx.mk gb
      clear hb2 g2 g3 gb hs2
      go_wp2_with fail
      refine bodyPost_ret (res_two rfl _ _ (w.heap.size + 1) _ _ _ _ rfl (two_setC G2.out _ _) Tryz.underlying103 sizeC) rfl ⟨?_, (GB.out.setCell (Nat.le_succ _) _).setCell (Nat.le_succ _) _⟩
      obtain ⟨d1, d2, _, _⟩ := up_of hk
      rw [d1, d2, hk]
      rfl
  · have hk : upK L I = false := by simp [upK, h]
    rw [Bool.eq_false_iff.2 h] at hm
    have HM := Bx.mk hm; clear hm
    go_enter Tryz.func143, Tryz.ntmps143
    go_wp2_with fail
    refine (HM.out _).mono ?_
    rintro e w1 ⟨rfl, hb⟩
    obtain ⟨h1, h2, h3, hb1, hs1⟩ := three_new hb
    obtain ⟨a1, a2, a3, a4⟩ := two_cells h1
    obtain ⟨b1, b2, b3, b4⟩ := two_cells h2
    obtain ⟨c1, c2, c3, c4⟩ := two_cells h3
    have HB := Bx.mk hb1; have HS := Bx.mk hs1; have H2 := Bx.mk h2; have H3 := Bx.mk h3
    clear hb h1 h2 h3 hb1 hs1
    go_wp2_with fail
    refine bodyPost_ret (res_two rfl _ _ (w.heap.size + 1) _ _ _ _ rfl (two_setC H2.out _ _) Tryz.underlying103 sizeC) rfl ⟨?_, (HB.out.setCell (Nat.le_succ _) _).setCell (Nat.le_succ _) _⟩
    rw [show upL L I = 0 by unfold upL; rw [if_neg (by rw [hk]; decide)], show upI L I = 0 by unfold upI; rw [if_neg (by rw [hk]; decide)], hk]
    rfl
end Go.Proofs.YtgbafjmklefoiaaGreatDoor
end
