/- cartularylaw10: the two builders of the program, the document's, and the book. -/
import Derived.Test.YtbhcaalelfaceaaGreatDoorReC
import Derived.Test.YtbhcaalelfaceaaGreatDoorEmB
import Derived.Test.YtbhcaalelfaceaaGreatDoorW2
namespace Go.Proofs.YtbhcaalelfaceaaGreatDoor
set_option maxRecDepth 100000
open Go.RowKit
theorem own_apartE {w : World} {b1 b2 s1 s2 n1 n2 : Nat} {e1 e2 : TypeId} {v1 v2 : Value} {x1 x2 : List Value} (h1 : w.ownsRow b1 e1 s1 v1 n1 x1) (h2 : w.ownsRow b2 e2 s2 v2 n2 x2) (hne : e1 ≠ e2) (k : Nat) (hk : v1.ownBlock = some k) : v2.ownBlock ≠ some k := by
  intro hk2
  rcases h1.2 with ⟨rfl, _⟩ | ⟨g, cap, cur, rfl, _, hg, _⟩
  · cases hk
  · rcases h2.2 with ⟨rfl, _⟩ | ⟨g2, cap2, cur2, rfl, _, hg2, _⟩
    · cases hk2
    · have e1 : g = k := by simpa [Value.ownBlock] using hk
      have e2 : g2 = k := by simpa [Value.ownBlock] using hk2
      rw [e1] at hg
      rw [e2, hg] at hg2
      injection hg2 with e
      injection e with _ e _
      exact hne e
def updF {α : Type} (f : Nat → α) (j : Nat) (x : α) : Nat → α := fun i => if i = j then x else f i
theorem updF_at {α : Type} (f : Nat → α) (j : Nat) (x : α) : updF f j x j = x := if_pos rfl
theorem updF_ne {α : Type} {f : Nat → α} {j : Nat} {x : α} {i : Nat} (h : i ≠ j) : updF f j x i = f i := if_neg h
/-- what the world of chapter 10 is made of: builders, the document's, the book -/
structure ED where
  s : Nat → Nat
  r : Nat → Nat
  n : Nat → Nat
  ls : Nat → List (List UInt8)
  sv : Nat → Value
  L : Nat → Value
  bn : Nat
  l : Nat → Value
  m0 : Nat
  V0 : Nat → Value
  N0 : Nat → Nat
  X0 : Nat → List Value
  G0 : Nat → Value
  K0 : Nat → Nat
  m1 : Nat
  V1 : Nat → Value
  N1 : Nat → Nat
  X1 : Nat → List Value
  G1 : Nat → Value
  K1 : Nat → Nat
def RbS (r : Nat) (L : Value) (k : Nat) : Prop := k = r ∨ L.ownBlock = some k
def ED.B (D : ED) (k : Nat) : Prop := (∃ i, i < D.m0 ∧ (D.V0 i).ownBlock = some k) ∨ (D.l 5).ownBlock = some k ∨ (∃ i, i < D.m1 ∧ (D.V1 i).ownBlock = some k) ∨ (D.l 8).ownBlock = some k
/-- the blocks of a part: the builders 0 1, the document's 2 3, the book's 4, the world's 5 -/
def ED.U (D : ED) (wb a k : Nat) : Prop := match a with
  | 0 => BuS (D.s 0) (D.sv 0) k
  | 1 => BuS (D.s 1) (D.sv 1) k
  | 2 => RbS (D.r 0) (D.L 0) k
  | 3 => RbS (D.r 1) (D.L 1) k
  | 4 => D.B k
  | 5 => k = wb
  | _ => False
theorem dj_step {U U' F : Nat → Nat → Prop} (h : ∀ a b, a < b → b < 6 → ∀ k, U a k → ¬ U b k) (h' : ∀ a, a < 6 → ∀ k, U' a k → U a k ∨ ((∀ b, b < 6 → ¬ U b k) ∧ F a k)) (hF : ∀ a b, a < b → b < 6 → ∀ k, F a k → ¬ F b k) :
    ∀ a b, a < b → b < 6 → ∀ k, U' a k → ¬ U' b k := by
  intro a b hab hb k h1 h2
  rcases h' a (by omega) k h1 with h1 | ⟨n1, f1⟩
  · rcases h' b hb k h2 with h2 | ⟨n2, _⟩
    · exact h a b hab hb k h1 h2
    · exact n2 a (by omega) h1
  · rcases h' b hb k h2 with h2 | ⟨_, f2⟩
    · exact n1 b hb h2
    · exact hF a b hab hb k f1 f2
structure EW (base : Nat) (w : World) (wb : Nat) (D : ED) : Prop where
  bh : BkL 5 114 66 32 base w wb D.bn D.l D.m0 D.V0 D.N0 D.X0 D.G0 D.K0
  bd : BkL 8 128 130 34 base w wb D.bn D.l D.m1 D.V1 D.N1 D.X1 D.G1 D.K1
  hz : ∀ i, i ≤ 16 → i ≠ 5 → i ≠ 8 → D.l i = .slice none 0 0
  ps : ∀ k, k < 2 → D.l (17 + k) = .pointer (some ⟨D.s k, 0, none⟩)
  pr : ∀ k, k < 2 → D.l (19 + k) = .pointer (some ⟨D.r k, 0, none⟩)
  bu : ∀ k, k < 2 → BuP base w (D.s k) (D.n k) (D.ls k) (D.sv k)
  rb : ∀ k, k < 2 → RbM base w (D.r k) (D.n k) (D.ls k) (D.L k)
  pc : ∀ k, k < 2 → (D.ls k).length = pcnt (D.n k)
  le : ∀ k, k < 2 → D.n k ≤ 9223372036854775808
  bw : base ≤ wb
  dj : ∀ a b, a < b → b < 6 → ∀ k, D.U wb a k → ¬ D.U wb b k
  cm : D.m0 + D.m1 ≤ D.bn
  c0 : ∀ i, i < D.m0 → D.N0 i ≤ 64 ∧ D.K0 i ≤ D.bn
  c1 : ∀ i, i < D.m1 → D.N1 i ≤ 65 ∧ D.K1 i ≤ D.bn
theorem EW.dn {base : Nat} {w : World} {wb : Nat} {D : ED} (h : EW base w wb D) (a b : Nat) (ha : a < 6) (hb : b < 6) (hab : a ≠ b) (k : Nat) (h1 : D.U wb a k) : ¬ D.U wb b k := by
  rcases Nat.lt_or_gt_of_ne hab with hlt | hgt
  · exact h.dj a b hlt hb k h1
  · exact fun h2 => h.dj b a hgt ha k h2 h1
theorem RbM.ltS {base : Nat} {w : World} {r n : Nat} {ls : List (List UInt8)} {L : Value} (h : RbM base w r n ls L) (k : Nat) (hk : RbS r L k) : k < w.heap.size := by
  rcases hk with rfl | hk
  · exact (Array.getElem?_eq_some_iff.1 h.hb).1
  · exact ownsRow_lt h.row k hk
theorem RbM.geS {base : Nat} {w : World} {r n : Nat} {ls : List (List UInt8)} {L : Value} (h : RbM base w r n ls L) (k : Nat) (hk : RbS r L k) : base ≤ k := by
  rcases hk with rfl | hk
  · exact h.br
  · exact ownsRow_ge h.row k hk
theorem RbM.keptS {base : Nat} {w w' : World} {r n : Nat} {ls : List (List UInt8)} {L : Value} {T : Nat → Prop} (h : RbM base w r n ls L) (k : Keep T w w') (hd : ∀ j, RbS r L j → ¬ T j) : RbM base w' r n ls L :=
  h.kept k (hd _ (.inl rfl)) (fun j hj => hd j (.inr hj))
theorem ED.Us {D : ED} {wb k : Nat} (hk : k < 2) (j : Nat) : D.U wb k j ↔ BuS (D.s k) (D.sv k) j := by
  rcases (show k = 0 ∨ k = 1 by omega) with rfl | rfl <;> exact Iff.rfl
theorem ED.Ur {D : ED} {wb k : Nat} (hk : k < 2) (j : Nat) : D.U wb (2 + k) j ↔ RbS (D.r k) (D.L k) j := by
  rcases (show k = 0 ∨ k = 1 by omega) with rfl | rfl <;> exact Iff.rfl
theorem EW.lt {base : Nat} {w : World} {wb : Nat} {D : ED} (h : EW base w wb D) (a : Nat) (k : Nat) (hk : D.U wb a k) : k < w.heap.size := by
  match a, hk with
  | 0, hk => exact (h.bu 0 (by decide)).lt k hk
  | 1, hk => exact (h.bu 1 (by decide)).lt k hk
  | 2, hk => exact (h.rb 0 (by decide)).ltS k hk
  | 3, hk => exact (h.rb 1 (by decide)).ltS k hk
  | 4, hk =>
    rcases hk with ⟨i, hi, e⟩ | e | ⟨i, hi, e⟩ | e
    · exact ownsRow_lt (h.bh.li i hi) k e
    · exact ownsRow_lt h.bh.row k e
    · exact ownsRow_lt (h.bd.li i hi) k e
    · exact ownsRow_lt h.bd.row k e
  | 5, hk =>
    obtain rfl : k = wb := hk
    exact (Array.getElem?_eq_some_iff.1 h.bh.bk.hb).1
theorem EW.ge {base : Nat} {w : World} {wb : Nat} {D : ED} (h : EW base w wb D) (a : Nat) (k : Nat) (hk : D.U wb a k) : base ≤ k := by
  match a, hk with
  | 0, hk => exact (h.bu 0 (by decide)).ge k hk
  | 1, hk => exact (h.bu 1 (by decide)).ge k hk
  | 2, hk => exact (h.rb 0 (by decide)).geS k hk
  | 3, hk => exact (h.rb 1 (by decide)).geS k hk
  | 4, hk =>
    rcases hk with ⟨i, hi, e⟩ | e | ⟨i, hi, e⟩ | e
    · exact ownsRow_ge (h.bh.li i hi) k e
    · exact ownsRow_ge h.bh.row k e
    · exact ownsRow_ge (h.bd.li i hi) k e
    · exact ownsRow_ge h.bd.row k e
  | 5, hk =>
    obtain rfl : k = wb := hk
    exact h.bw
theorem EW.below {base : Nat} {w w' : World} {wb : Nat} {D : ED} (h : EW base w wb D) (k : Below w.heap.size w w') : EW base w' wb D :=
  ⟨h.bh.keep (Keep.of_below k (fun _ => False)) (h.bh.bk.below k) rfl (fun _ _ e => e) (fun _ _ _ _ e => e), h.bd.keep (Keep.of_below k (fun _ => False)) (h.bh.bk.below k) rfl (fun _ _ e => e) (fun _ _ _ _ e => e),
   h.hz, h.ps, h.pr, fun i hi => (h.bu i hi).below k, fun i hi => (h.rb i hi).below k, h.pc, h.le, h.bw, h.dj, h.cm, h.c0, h.c1⟩
theorem EW.wblt {base : Nat} {w : World} {wb : Nat} {D : ED} (h : EW base w wb D) : wb < w.heap.size := (Array.getElem?_eq_some_iff.1 h.bh.bk.hb).1
theorem EW.cS {base : Nat} {w : World} {wb : Nat} {D : ED} (h : EW base w wb D) {k : Nat} (hk : k < 2) : w.cell? ⟨wb, k, none⟩ = some (.pointer (some ⟨D.s k, 0, none⟩)) := by
  rw [← h.ps k hk]
  rcases (show k = 0 ∨ k = 1 by omega) with rfl | rfl
  · exact er_cellAt h.bh.bk.hb 0 _ rfl
  · exact er_cellAt h.bh.bk.hb 1 _ rfl
theorem EW.cR {base : Nat} {w : World} {wb : Nat} {D : ED} (h : EW base w wb D) {k : Nat} (hk : k < 2) : w.cell? ⟨wb, 2 + k, none⟩ = some (.pointer (some ⟨D.r k, 0, none⟩)) := by
  rw [← h.pr k hk]
  rcases (show k = 0 ∨ k = 1 by omega) with rfl | rfl
  · exact er_cellAt h.bh.bk.hb 2 _ rfl
  · exact er_cellAt h.bh.bk.hb 3 _ rfl
/-- one builder and the document's are other ones -/
def ED.put (D : ED) (k s' r' n' : Nat) (ls' : List (List UInt8)) (sv' L' : Value) (l' : Nat → Value) : ED :=
  { D with s := updF D.s k s', r := updF D.r k r', n := updF D.n k n', ls := updF D.ls k ls', sv := updF D.sv k sv', L := updF D.L k L', l := l' }
theorem EW.put {base : Nat} {w w' : World} {wb : Nat} {D : ED} (h : EW base w wb D) {k : Nat} (hk : k < 2) {s' r' n' : Nat} {ls' : List (List UInt8)} {sv' L' : Value} {l' : Nat → Value}
    (kp : Keep (fun j => j = wb ∨ D.U wb k j ∨ D.U wb (2 + k) j) w w') (hb : BkP w' wb (D.bn : Int) l') (hl : ∀ i, i ≠ 17 + k → i ≠ 19 + k → l' i = D.l i)
    (e1 : l' (17 + k) = .pointer (some ⟨s', 0, none⟩)) (e2 : l' (19 + k) = .pointer (some ⟨r', 0, none⟩))
    (hB : BuP base w' s' n' ls' sv') (hR : RbM base w' r' n' ls' L') (hp : ls'.length = pcnt n') (hn : n' ≤ 9223372036854775808)
    (f1 : ∀ j, BuS s' sv' j → D.U wb k j ∨ w.heap.size ≤ j) (f2 : ∀ j, RbS r' L' j → D.U wb (2 + k) j ∨ w.heap.size ≤ j) (f3 : ∀ j, BuS s' sv' j → ¬ RbS r' L' j) :
    EW base w' wb (D.put k s' r' n' ls' sv' L' l') := by
  have n5 : ∀ j, D.U wb 4 j → ¬ (j = wb ∨ D.U wb k j ∨ D.U wb (2 + k) j) := fun j hj e => by
    rcases e with e | e | e
    · exact h.dn 4 5 (by decide) (by decide) (by decide) j hj e
    · exact h.dn 4 k (by decide) (by omega) (by omega) j hj e
    · exact h.dn 4 (2 + k) (by decide) (by omega) (by omega) j hj e
  have nS : ∀ i, i < 2 → i ≠ k → ∀ j, BuS (D.s i) (D.sv i) j → ¬ (j = wb ∨ D.U wb k j ∨ D.U wb (2 + k) j) := fun i hi hik j hj e => by
    have hj := (ED.Us (wb := wb) hi j).2 hj
    rcases e with e | e | e
    · exact h.dn i 5 (by omega) (by decide) (by omega) j hj e
    · exact h.dn i k (by omega) (by omega) hik j hj e
    · exact h.dn i (2 + k) (by omega) (by omega) (by omega) j hj e
  have nR : ∀ i, i < 2 → i ≠ k → ∀ j, RbS (D.r i) (D.L i) j → ¬ (j = wb ∨ D.U wb k j ∨ D.U wb (2 + k) j) := fun i hi hik j hj e => by
    have hj := (ED.Ur (wb := wb) hi j).2 hj
    rcases e with e | e | e
    · exact h.dn (2 + i) 5 (by omega) (by decide) (by omega) j hj e
    · exact h.dn (2 + i) k (by omega) (by omega) (by omega) j hj e
    · exact h.dn (2 + i) (2 + k) (by omega) (by omega) (by omega) j hj e
  have frA : ∀ j, w.heap.size ≤ j → ∀ b, b < 6 → ¬ D.U wb b j := fun j hj b _ e => by have := h.lt b j e; omega
  have l5 : l' 5 = D.l 5 := hl 5 (by omega) (by omega)
  have l8 : l' 8 = D.l 8 := hl 8 (by omega) (by omega)
  refine ⟨h.bh.keep kp hb l5 (fun j hj => n5 j (.inr (.inl hj))) (fun i hi j hj => n5 j (.inl ⟨i, hi, hj⟩)),
    h.bd.keep kp hb l8 (fun j hj => n5 j (.inr (.inr (.inr hj)))) (fun i hi j hj => n5 j (.inr (.inr (.inl ⟨i, hi, hj⟩)))),
    fun i hi h5 h8 => (hl i (by omega) (by omega)).trans (h.hz i hi h5 h8), fun i hi => ?_, fun i hi => ?_, fun i hi => ?_, fun i hi => ?_, fun i hi => ?_, fun i hi => ?_, h.bw, ?_, h.cm, h.c0, h.c1⟩
  · show l' (17 + i) = .pointer (some ⟨updF D.s k s' i, 0, none⟩)
    by_cases e : i = k
    · subst e; rw [updF_at]; exact e1
    · rw [updF_ne e, hl _ (by omega) (by omega)]; exact h.ps i hi
  · show l' (19 + i) = .pointer (some ⟨updF D.r k r' i, 0, none⟩)
    by_cases e : i = k
    · subst e; rw [updF_at]; exact e2
    · rw [updF_ne e, hl _ (by omega) (by omega)]; exact h.pr i hi
  · show BuP base w' (updF D.s k s' i) (updF D.n k n' i) (updF D.ls k ls' i) (updF D.sv k sv' i)
    by_cases e : i = k
    · subst e; rw [updF_at, updF_at, updF_at, updF_at]; exact hB
    · rw [updF_ne e, updF_ne e, updF_ne e, updF_ne e]; exact (h.bu i hi).kept kp (nS i hi e)
  · show RbM base w' (updF D.r k r' i) (updF D.n k n' i) (updF D.ls k ls' i) (updF D.L k L' i)
    by_cases e : i = k
    · subst e; rw [updF_at, updF_at, updF_at, updF_at]; exact hR
    · rw [updF_ne e, updF_ne e, updF_ne e, updF_ne e]; exact (h.rb i hi).keptS kp (nR i hi e)
  · show (updF D.ls k ls' i).length = pcnt (updF D.n k n' i)
    by_cases e : i = k
    · subst e; rw [updF_at, updF_at]; exact hp
    · rw [updF_ne e, updF_ne e]; exact h.pc i hi
  · show updF D.n k n' i ≤ 9223372036854775808
    by_cases e : i = k
    · subst e; rw [updF_at]; exact hn
    · rw [updF_ne e]; exact h.le i hi
  · have uS : ∀ i, i < 2 → ∀ j, BuS (updF D.s k s' i) (updF D.sv k sv' i) j → D.U wb i j ∨ ((∀ b, b < 6 → ¬ D.U wb b j) ∧ i = k ∧ BuS s' sv' j) := fun i hi j hj => by
      by_cases e : i = k
      · subst e
        rw [updF_at, updF_at] at hj
        exact (f1 j hj).imp id (fun hf => ⟨frA j hf, rfl, hj⟩)
      · rw [updF_ne e, updF_ne e] at hj
        exact .inl ((ED.Us hi j).2 hj)
    have uR : ∀ i, i < 2 → ∀ j, RbS (updF D.r k r' i) (updF D.L k L' i) j → D.U wb (2 + i) j ∨ ((∀ b, b < 6 → ¬ D.U wb b j) ∧ i = k ∧ RbS r' L' j) := fun i hi j hj => by
      by_cases e : i = k
      · subst e
        rw [updF_at, updF_at] at hj
        exact (f2 j hj).imp id (fun hf => ⟨frA j hf, rfl, hj⟩)
      · rw [updF_ne e, updF_ne e] at hj
        exact .inl ((ED.Ur hi j).2 hj)
    refine dj_step (U := D.U wb) (F := fun a j => (a = k ∧ BuS s' sv' j) ∨ (a = 2 + k ∧ RbS r' L' j)) h.dj (fun a ha j hj => ?_) (fun a b hab _ j fa fb => ?_)
    · match a, ha, hj with
      | 0, _, hj => exact (uS 0 (by decide) j hj).imp id (fun ⟨x, y, z⟩ => ⟨x, .inl ⟨y, z⟩⟩)
      | 1, _, hj => exact (uS 1 (by decide) j hj).imp id (fun ⟨x, y, z⟩ => ⟨x, .inl ⟨y, z⟩⟩)
      | 2, _, hj => exact (uR 0 (by decide) j hj).imp id (fun ⟨x, y, z⟩ => ⟨x, .inr ⟨by omega, z⟩⟩)
      | 3, _, hj => exact (uR 1 (by decide) j hj).imp id (fun ⟨x, y, z⟩ => ⟨x, .inr ⟨by omega, z⟩⟩)
      | 4, _, hj =>
        refine .inl ?_
        have hj : (D.put k s' r' n' ls' sv' L' l').B j := hj
        unfold ED.B at hj
        rw [show (D.put k s' r' n' ls' sv' L' l').l 5 = D.l 5 from l5, show (D.put k s' r' n' ls' sv' L' l').l 8 = D.l 8 from l8] at hj
        exact hj
      | 5, _, hj => exact .inl hj
    · rcases fa with ⟨e1, e2⟩ | ⟨e1, e2⟩ <;> rcases fb with ⟨e3, e4⟩ | ⟨e3, e4⟩
      · omega
      · exact f3 j e2 e4
      · exact f3 j e4 e2
      · omega
theorem hdRow_succ (V G : Nat → Value) (K : Nat → Nat) (m : Nat) (v g : Value) (n : Nat) : hdRow (updF V m v) (updF G m g) (updF K m n) (m + 1) = hdRow V G K m ++ [v, g, .int .i64 (n : Int)] := by
  unfold hdRow
  rw [List.range_succ, List.flatMap_append]
  congr 1
  · rw [List.flatMap_def, List.flatMap_def]
    congr 1
    refine List.map_congr_left fun i hi => ?_
    have : i ≠ m := by have := List.mem_range.1 hi; omega
    rw [updF_ne this, updF_ne this, updF_ne this]
  · simp [updF_at]
/-- a list of Hash more in the book -/
def ED.addHash (D : ED) (x v : Value) (nv : Nat) (xs : List Value) : ED :=
  { D with bn := D.bn + 1, l := updK D.l 5 x, m0 := D.m0 + 1, V0 := updF D.V0 D.m0 v, N0 := updF D.N0 D.m0 nv, X0 := updF D.X0 D.m0 xs, G0 := updF D.G0 D.m0 (.slice none 0 0), K0 := updF D.K0 D.m0 (D.bn + 1) }
theorem EW.addHash {base : Nat} {w w' : World} {wb : Nat} {D : ED} (h : EW base w wb D) {x v : Value} {nv : Nat} {xs : List Value} (kp : Keep (fun j => j = wb ∨ (D.l 5).ownBlock = some j) w w') (hb : BkP w' wb ((D.bn + 1 : Nat) : Int) (updK D.l 5 x))
    (hrow : w'.ownsRow base 114 3 x (D.m0 + 1) (hdRow D.V0 D.G0 D.K0 D.m0 ++ [v, .slice none 0 0, .int .i64 ((D.bn + 1 : Nat) : Int)])) (hx : ∀ k, x.ownBlock = some k → k ≠ wb ∧ ((D.l 5).ownBlock = some k ∨ w.heap.size ≤ k))
    (hv : w.ownsRow base 66 32 v nv xs) (hvs : ∀ j, v.ownBlock = some j → ∀ a, a < 6 → ¬ D.U wb a j) (hN : nv ≤ 64) : EW base w' wb (D.addHash x v nv xs) := by
  have u4 : ∀ a, a < 6 → a ≠ 4 → a ≠ 5 → ∀ j, D.U wb a j → ¬ (j = wb ∨ (D.l 5).ownBlock = some j) := fun a ha h4 h5 j hj e => by
    rcases e with e | e
    · exact h.dn a 5 ha (by decide) h5 j hj e
    · exact h.dn a 4 ha (by decide) h4 j hj (.inr (.inl e))
  have vw : ∀ j, v.ownBlock = some j → ¬ (j = wb ∨ (D.l 5).ownBlock = some j) := fun j hj e => by
    rcases e with e | e
    · exact hvs j hj 5 (by decide) e
    · exact hvs j hj 4 (by decide) (.inr (.inl e))
  have rr : ∀ j, (D.l 8).ownBlock = some j → ¬ (j = wb ∨ (D.l 5).ownBlock = some j) := fun j hj e => by
    rcases e with e | e
    · exact h.dn 4 5 (by decide) (by decide) (by decide) j (.inr (.inr (.inr hj))) e
    · exact own_apartE h.bd.row h.bh.row (by decide) j hj e
  have rl : ∀ i, i < D.m1 → ∀ j, (D.V1 i).ownBlock = some j → ¬ (j = wb ∨ (D.l 5).ownBlock = some j) := fun i hi j hj e => by
    rcases e with e | e
    · exact h.dn 4 5 (by decide) (by decide) (by decide) j (.inr (.inr (.inl ⟨i, hi, hj⟩))) e
    · exact own_apartE (h.bd.li i hi) h.bh.row (by decide) j hj e
  have old : ∀ i, i < D.m0 → ∀ j, (D.V0 i).ownBlock = some j → j ≠ wb ∧ (D.l 5).ownBlock ≠ some j ∧ j < w.heap.size := fun i hi j hj => ⟨(h.bh.nb i hi j hj).1, (h.bh.nb i hi j hj).2, ownsRow_lt (h.bh.li i hi) j hj⟩
  have fx : ∀ j, x.ownBlock = some j → ∀ i, i < D.m0 → (D.V0 i).ownBlock ≠ some j := fun j hj i hi e => by
    rcases (hx j hj).2 with h1 | h1
    · exact (old i hi j e).2.1 h1
    · have := (old i hi j e).2.2; omega
  have vx : ∀ j, v.ownBlock = some j → x.ownBlock ≠ some j := fun j hj e => by
    rcases (hx j e).2 with h1 | h1
    · exact vw j hj (.inr h1)
    · have := ownsRow_lt hv j hj; omega
  have lJ : updK D.l 5 x 5 = x := if_pos rfl
  have l2 : updK D.l 5 x 8 = D.l 8 := if_neg (by decide)
  have B1 : BkL 5 114 66 32 base w' wb (D.bn + 1) (updK D.l 5 x) (D.m0 + 1) (updF D.V0 D.m0 v) (updF D.N0 D.m0 nv) (updF D.X0 D.m0 xs) (updF D.G0 D.m0 (.slice none 0 0)) (updF D.K0 D.m0 (D.bn + 1)) := by
    refine ⟨hb, ?_, fun i hi => ?_, fun i hi j hj hij k e1 e2 => ?_, fun i hi k e => ?_, fun i hi => ?_, h.bh.ht⟩
    · rw [lJ, hdRow_succ]; exact hrow
    · by_cases e : i = D.m0
      · subst e
        rw [updF_at, updF_at, updF_at]
        exact own_keep hv kp vw
      · rw [updF_ne e, updF_ne e, updF_ne e]
        have hi' : i < D.m0 := by omega
        exact own_keep (h.bh.li i hi') kp (fun j hj e => by
          rcases e with e | e
          · exact (old i hi' j hj).1 e
          · exact (old i hi' j hj).2.1 e)
    · by_cases ei : i = D.m0
      · subst ei
        have hj' : j < D.m0 := by omega
        rw [updF_at] at e1
        rw [updF_ne (by omega)] at e2
        exact hvs k e1 4 (by decide) (.inl ⟨j, hj', e2⟩)
      · have hi' : i < D.m0 := by omega
        rw [updF_ne ei] at e1
        by_cases ej : j = D.m0
        · subst ej
          rw [updF_at] at e2
          exact hvs k e2 4 (by decide) (.inl ⟨i, hi', e1⟩)
        · rw [updF_ne ej] at e2
          exact h.bh.sep i hi' j (by omega) hij k e1 e2
    · rw [lJ]
      by_cases ei : i = D.m0
      · subst ei
        rw [updF_at] at e
        exact ⟨fun e2 => vw k e (.inl e2), vx k e⟩
      · rw [updF_ne ei] at e
        have hi' : i < D.m0 := by omega
        exact ⟨(old i hi' k e).1, fun e2 => fx k e2 i hi' e⟩
    · by_cases ei : i = D.m0
      · subst ei; rw [updF_at]; exact ⟨none, 0, 0, rfl⟩
      · rw [updF_ne ei]; exact h.bh.gs i (by omega)
  have B2 : BkL 8 128 130 34 base w' wb (D.bn + 1) (updK D.l 5 x) D.m1 D.V1 D.N1 D.X1 D.G1 D.K1 :=
    h.bd.keep kp hb l2 rr rl
  refine ⟨B1, B2, fun i hi h5 h8 => ?_, fun i hi => ?_, fun i hi => ?_, fun i hi => (h.bu i hi).kept kp (fun j hj => u4 i (by omega) (by omega) (by omega) j ((ED.Us hi j).2 hj)), fun i hi => (h.rb i hi).keptS kp (fun j hj => u4 (2 + i) (by omega) (by omega) (by omega) j ((ED.Ur hi j).2 hj)), h.pc, h.le, h.bw, ?_, ?_, ?_, ?_⟩
  · show updK D.l 5 x i = _
    unfold updK; rw [if_neg (by omega)]; exact h.hz i hi h5 h8
  · show updK D.l 5 x (17 + i) = _
    unfold updK; rw [if_neg (by omega)]; exact h.ps i hi
  · show updK D.l 5 x (19 + i) = _
    unfold updK; rw [if_neg (by omega)]; exact h.pr i hi
  · refine dj_step (U := D.U wb) (F := fun a j => a = 4) h.dj (fun a ha j hj => ?_) (fun a b hab _ j fa fb => by omega)
    match a, ha, hj with
    | 0, _, hj => exact .inl hj
    | 1, _, hj => exact .inl hj
    | 2, _, hj => exact .inl hj
    | 3, _, hj => exact .inl hj
    | 5, _, hj => exact .inl hj
    | 4, _, hj =>
      have hj : (D.addHash x v nv xs).B j := hj
      have hq : ∀ i, i < D.m0 + 1 → (updF D.V0 D.m0 v i).ownBlock = some j → D.U wb 4 j ∨ ((∀ b, b < 6 → ¬ D.U wb b j) ∧ 4 = 4) := fun i hi e => by
        by_cases ei : i = D.m0
        · subst ei
          rw [updF_at] at e
          exact .inr ⟨fun b hb => hvs j e b hb, rfl⟩
        · rw [updF_ne ei] at e
          exact .inl (.inl ⟨i, by omega, e⟩)
      have hl : (updK D.l 5 x 5).ownBlock = some j → D.U wb 4 j ∨ ((∀ b, b < 6 → ¬ D.U wb b j) ∧ 4 = 4) := fun e => by
        rw [lJ] at e
        rcases (hx j e).2 with h1 | h1
        · exact .inl (.inr (.inl h1))
        · exact .inr ⟨fun b hb e => by have := h.lt b j e; omega, rfl⟩
      rcases hj with ⟨i, hi, e⟩ | e | ⟨i, hi, e⟩ | e
      · exact hq i hi e
      · exact hl e
      · exact .inl (.inr (.inr (.inl ⟨i, hi, e⟩)))
      · rw [show (D.addHash x v nv xs).l 8 = D.l 8 from l2] at e
        exact .inl (.inr (.inr (.inr e)))
  · show D.m0 + 1 + D.m1 ≤ D.bn + 1
    have := h.cm; omega
  · intro i hi
    show updF D.N0 D.m0 nv i ≤ 64 ∧ updF D.K0 D.m0 (D.bn + 1) i ≤ D.bn + 1
    by_cases ei : i = D.m0
    · subst ei; rw [updF_at, updF_at]; exact ⟨hN, Nat.le_refl _⟩
    · rw [updF_ne ei, updF_ne ei]
      have := h.c0 i (by have : i < D.m0 + 1 := hi; omega)
      omega
  · intro i hi
    show D.N1 i ≤ 65 ∧ D.K1 i ≤ D.bn + 1
    have := h.c1 i hi
    omega
/-- a list of Node more in the book -/
def ED.addNode (D : ED) (x v : Value) (nv : Nat) (xs : List Value) : ED :=
  { D with bn := D.bn + 1, l := updK D.l 8 x, m1 := D.m1 + 1, V1 := updF D.V1 D.m1 v, N1 := updF D.N1 D.m1 nv, X1 := updF D.X1 D.m1 xs, G1 := updF D.G1 D.m1 (.slice none 0 0), K1 := updF D.K1 D.m1 (D.bn + 1) }
theorem EW.addNode {base : Nat} {w w' : World} {wb : Nat} {D : ED} (h : EW base w wb D) {x v : Value} {nv : Nat} {xs : List Value} (kp : Keep (fun j => j = wb ∨ (D.l 8).ownBlock = some j) w w') (hb : BkP w' wb ((D.bn + 1 : Nat) : Int) (updK D.l 8 x))
    (hrow : w'.ownsRow base 128 3 x (D.m1 + 1) (hdRow D.V1 D.G1 D.K1 D.m1 ++ [v, .slice none 0 0, .int .i64 ((D.bn + 1 : Nat) : Int)])) (hx : ∀ k, x.ownBlock = some k → k ≠ wb ∧ ((D.l 8).ownBlock = some k ∨ w.heap.size ≤ k))
    (hv : w.ownsRow base 130 34 v nv xs) (hvs : ∀ j, v.ownBlock = some j → ∀ a, a < 6 → ¬ D.U wb a j) (hN : nv ≤ 65) : EW base w' wb (D.addNode x v nv xs) := by
  have u4 : ∀ a, a < 6 → a ≠ 4 → a ≠ 5 → ∀ j, D.U wb a j → ¬ (j = wb ∨ (D.l 8).ownBlock = some j) := fun a ha h4 h5 j hj e => by
    rcases e with e | e
    · exact h.dn a 5 ha (by decide) h5 j hj e
    · exact h.dn a 4 ha (by decide) h4 j hj (.inr (.inr (.inr e)))
  have vw : ∀ j, v.ownBlock = some j → ¬ (j = wb ∨ (D.l 8).ownBlock = some j) := fun j hj e => by
    rcases e with e | e
    · exact hvs j hj 5 (by decide) e
    · exact hvs j hj 4 (by decide) (.inr (.inr (.inr e)))
  have rr : ∀ j, (D.l 5).ownBlock = some j → ¬ (j = wb ∨ (D.l 8).ownBlock = some j) := fun j hj e => by
    rcases e with e | e
    · exact h.dn 4 5 (by decide) (by decide) (by decide) j (.inr (.inl hj)) e
    · exact own_apartE h.bh.row h.bd.row (by decide) j hj e
  have rl : ∀ i, i < D.m0 → ∀ j, (D.V0 i).ownBlock = some j → ¬ (j = wb ∨ (D.l 8).ownBlock = some j) := fun i hi j hj e => by
    rcases e with e | e
    · exact h.dn 4 5 (by decide) (by decide) (by decide) j (.inl ⟨i, hi, hj⟩) e
    · exact own_apartE (h.bh.li i hi) h.bd.row (by decide) j hj e
  have old : ∀ i, i < D.m1 → ∀ j, (D.V1 i).ownBlock = some j → j ≠ wb ∧ (D.l 8).ownBlock ≠ some j ∧ j < w.heap.size := fun i hi j hj => ⟨(h.bd.nb i hi j hj).1, (h.bd.nb i hi j hj).2, ownsRow_lt (h.bd.li i hi) j hj⟩
  have fx : ∀ j, x.ownBlock = some j → ∀ i, i < D.m1 → (D.V1 i).ownBlock ≠ some j := fun j hj i hi e => by
    rcases (hx j hj).2 with h1 | h1
    · exact (old i hi j e).2.1 h1
    · have := (old i hi j e).2.2; omega
  have vx : ∀ j, v.ownBlock = some j → x.ownBlock ≠ some j := fun j hj e => by
    rcases (hx j e).2 with h1 | h1
    · exact vw j hj (.inr h1)
    · have := ownsRow_lt hv j hj; omega
  have lJ : updK D.l 8 x 8 = x := if_pos rfl
  have l2 : updK D.l 8 x 5 = D.l 5 := if_neg (by decide)
  have B1 : BkL 8 128 130 34 base w' wb (D.bn + 1) (updK D.l 8 x) (D.m1 + 1) (updF D.V1 D.m1 v) (updF D.N1 D.m1 nv) (updF D.X1 D.m1 xs) (updF D.G1 D.m1 (.slice none 0 0)) (updF D.K1 D.m1 (D.bn + 1)) := by
    refine ⟨hb, ?_, fun i hi => ?_, fun i hi j hj hij k e1 e2 => ?_, fun i hi k e => ?_, fun i hi => ?_, h.bd.ht⟩
    · rw [lJ, hdRow_succ]; exact hrow
    · by_cases e : i = D.m1
      · subst e
        rw [updF_at, updF_at, updF_at]
        exact own_keep hv kp vw
      · rw [updF_ne e, updF_ne e, updF_ne e]
        have hi' : i < D.m1 := by omega
        exact own_keep (h.bd.li i hi') kp (fun j hj e => by
          rcases e with e | e
          · exact (old i hi' j hj).1 e
          · exact (old i hi' j hj).2.1 e)
    · by_cases ei : i = D.m1
      · subst ei
        have hj' : j < D.m1 := by omega
        rw [updF_at] at e1
        rw [updF_ne (by omega)] at e2
        exact hvs k e1 4 (by decide) (.inr (.inr (.inl ⟨j, hj', e2⟩)))
      · have hi' : i < D.m1 := by omega
        rw [updF_ne ei] at e1
        by_cases ej : j = D.m1
        · subst ej
          rw [updF_at] at e2
          exact hvs k e2 4 (by decide) (.inr (.inr (.inl ⟨i, hi', e1⟩)))
        · rw [updF_ne ej] at e2
          exact h.bd.sep i hi' j (by omega) hij k e1 e2
    · rw [lJ]
      by_cases ei : i = D.m1
      · subst ei
        rw [updF_at] at e
        exact ⟨fun e2 => vw k e (.inl e2), vx k e⟩
      · rw [updF_ne ei] at e
        have hi' : i < D.m1 := by omega
        exact ⟨(old i hi' k e).1, fun e2 => fx k e2 i hi' e⟩
    · by_cases ei : i = D.m1
      · subst ei; rw [updF_at]; exact ⟨none, 0, 0, rfl⟩
      · rw [updF_ne ei]; exact h.bd.gs i (by omega)
  have B2 : BkL 5 114 66 32 base w' wb (D.bn + 1) (updK D.l 8 x) D.m0 D.V0 D.N0 D.X0 D.G0 D.K0 :=
    h.bh.keep kp hb l2 rr rl
  refine ⟨B2, B1, fun i hi h5 h8 => ?_, fun i hi => ?_, fun i hi => ?_, fun i hi => (h.bu i hi).kept kp (fun j hj => u4 i (by omega) (by omega) (by omega) j ((ED.Us hi j).2 hj)), fun i hi => (h.rb i hi).keptS kp (fun j hj => u4 (2 + i) (by omega) (by omega) (by omega) j ((ED.Ur hi j).2 hj)), h.pc, h.le, h.bw, ?_, ?_, ?_, ?_⟩
  · show updK D.l 8 x i = _
    unfold updK; rw [if_neg (by omega)]; exact h.hz i hi h5 h8
  · show updK D.l 8 x (17 + i) = _
    unfold updK; rw [if_neg (by omega)]; exact h.ps i hi
  · show updK D.l 8 x (19 + i) = _
    unfold updK; rw [if_neg (by omega)]; exact h.pr i hi
  · refine dj_step (U := D.U wb) (F := fun a j => a = 4) h.dj (fun a ha j hj => ?_) (fun a b hab _ j fa fb => by omega)
    match a, ha, hj with
    | 0, _, hj => exact .inl hj
    | 1, _, hj => exact .inl hj
    | 2, _, hj => exact .inl hj
    | 3, _, hj => exact .inl hj
    | 5, _, hj => exact .inl hj
    | 4, _, hj =>
      have hj : (D.addNode x v nv xs).B j := hj
      have hq : ∀ i, i < D.m1 + 1 → (updF D.V1 D.m1 v i).ownBlock = some j → D.U wb 4 j ∨ ((∀ b, b < 6 → ¬ D.U wb b j) ∧ 4 = 4) := fun i hi e => by
        by_cases ei : i = D.m1
        · subst ei
          rw [updF_at] at e
          exact .inr ⟨fun b hb => hvs j e b hb, rfl⟩
        · rw [updF_ne ei] at e
          exact .inl (.inr (.inr (.inl ⟨i, by omega, e⟩)))
      have hl : (updK D.l 8 x 8).ownBlock = some j → D.U wb 4 j ∨ ((∀ b, b < 6 → ¬ D.U wb b j) ∧ 4 = 4) := fun e => by
        rw [lJ] at e
        rcases (hx j e).2 with h1 | h1
        · exact .inl (.inr (.inr (.inr h1)))
        · exact .inr ⟨fun b hb e => by have := h.lt b j e; omega, rfl⟩
      rcases hj with ⟨i, hi, e⟩ | e | ⟨i, hi, e⟩ | e
      · exact .inl (.inl ⟨i, hi, e⟩)
      · rw [show (D.addNode x v nv xs).l 5 = D.l 5 from l2] at e
        exact .inl (.inr (.inl e))
      · exact hq i hi e
      · exact hl e
  · show D.m0 + (D.m1 + 1) ≤ D.bn + 1
    have := h.cm; omega
  · intro i hi
    show D.N0 i ≤ 64 ∧ D.K0 i ≤ D.bn + 1
    have := h.c0 i hi
    omega
  · intro i hi
    show updF D.N1 D.m1 nv i ≤ 65 ∧ updF D.K1 D.m1 (D.bn + 1) i ≤ D.bn + 1
    by_cases ei : i = D.m1
    · subst ei; rw [updF_at, updF_at]; exact ⟨hN, Nat.le_refl _⟩
    · rw [updF_ne ei, updF_ne ei]
      have := h.c1 i (by have : i < D.m1 + 1 := hi; omega)
      omega
end Go.Proofs.YtbhcaalelfaceaaGreatDoor
