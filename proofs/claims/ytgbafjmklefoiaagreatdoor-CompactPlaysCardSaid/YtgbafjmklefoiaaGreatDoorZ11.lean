/- compact.Range in memory; a block that one operation owns and a row that another one does; there, New. -/
import Derived.Test.YtgbafjmklefoiaaGreatDoorZ05
import Derived.Test.YtgbafjmklefoiaaGreatDoorZ07
import Derived.Test.YtgbafjmklefoiaaGreatDoorZ09
import Derived.Test.YtgbafjmklefoiaaGreatDoorZ10
namespace Go.Proofs.YtgbafjmklefoiaaGreatDoor
set_option maxRecDepth 100000
open Go.RowKit
def ownBG (b : Nat) (v : Value) (i j : Nat) : Nat → Option Nat := fun k => if k = b then some i else ownOf v j k
theorem ownBG_one (b : Nat) (v : Value) (i j : Nat) : ownBG b v i j b = some i := by unfold ownBG; rw [if_pos rfl]
theorem ownBG_two {b : Nat} {v : Value} {i j k : Nat} (h : v.ownBlock = some k) (hb : k ≠ b) : ownBG b v i j k = some j := by unfold ownBG; rw [if_neg hb, ownOf_at _ _ _ h]
theorem ownBG_none {b : Nat} {v : Value} {i j k : Nat} (h : v.ownBlock ≠ some k) (hb : k ≠ b) : ownBG b v i j k = none := by unfold ownBG; rw [if_neg hb, ownOf_not _ _ _ h]
theorem Since.keepBG {b : Nat} {v : Value} {i j : Nat} {own : Nat → Option Nat} {w0 w : World} (s : Since (ownBG b v i j) w0 own w) : Keep (fun k => k = b ∨ v.ownBlock = some k) w0 w :=
  ⟨s.os, s.tape, s.output, s.size, fun k hk hn => s.keep k hk (ownBG_none (fun e => hn (.inr e)) (fun e => hn (.inl e)))⟩
theorem grownW_setCellG {own : Nat → Option Nat} {w : World} {i j base : Nat} {e : TypeId} {size : Nat} {v : Value} {n : Nat} {xs : List Value} {v0 : Value} {B : Nat} (h : GrownW own w i base e size v n xs v0 B) (b o : Nat) (x : Value) (hb : own b = some j) (hj : j ≠ i) : GrownW own (w.setCell ⟨b, o, none⟩ x) i base e size v n xs v0 B := by
  refine ⟨⟨ownsRow_setCell_ne h.1.1 ⟨b, o, none⟩ x (fun k hk e => ?_), h.1.2⟩, h.2⟩
  have e' : k = b := e
  subst e'
  rcases h.1.2 k hk with h1 | h1
  · rw [hb] at h1; exact hj (Option.some.inj h1)
  · rw [hb] at h1; cases h1
/-- the row's beginning is a row -/
theorem own_takeC {w : World} {base : Nat} {e : TypeId} {size n c : Nat} {a : Option Addr} {xs : List Value} (h : w.ownsRow base e size (.slice a n c) n xs) (k : Nat) (hk : k ≤ n) (ha : a = none → c = 0 ∧ n = 0) : w.ownsRow base e size (.slice a k c) k (xs.take (k * size)) := by
  have hks : k * size ≤ n * size := Nat.mul_le_mul_right _ hk
  refine ⟨by rw [List.length_take, h.1]; omega, ?_⟩
  rcases h.2 with ⟨h0, h1⟩ | ⟨g, cap, cur, h0, hb, hg, h1, h2, h3, h4⟩
  · injection h0 with q1 q2 q3
    obtain ⟨q4, q5⟩ := ha q1
    obtain rfl : k = 0 := by omega
    exact .inl ⟨by rw [q1, q4], rfl⟩
  · injection h0 with q1 q2 q3
    subst q1; subst q3
    refine .inr ⟨g, c, cur, rfl, hb, hg, by omega, h2, h3, ?_⟩
    rw [← h4, List.take_take, Nat.min_eq_left hks]
theorem nszA {p : Nat × Nat × List UInt8} (h : p.2.2.length = 32) : (Tryz.prog.info? 105).map (·.size) = some (ncell p).size := by rw [ncell_size h]; kernel_rfl
theorem node_cells {w : World} {g : Nat} {p : Nat × Nat × List UInt8} {T : TypeId} {fr : Nat × Nat} (h : w.heap[g]? = some (.cells (ncell p) T fr)) : w.rangeAt g 0 [.int .u8 (p.1 : Int), .int .u64 (p.2.1 : Int)] ∧ w.rangeAt g 2 (bcells p.2.2) := by
  have e : (ncell p).toList = [.int .u8 (p.1 : Int), .int .u64 (p.2.1 : Int)] ++ bcells p.2.2 := by simp [ncell, ocells]
  refine ⟨fun j v hv => ?_, fun j v hv => ?_⟩
  · rw [Nat.zero_add]
    refine er_cellAt h j v ?_
    rw [← Array.getElem?_toList, e, List.getElem?_append_left (List.getElem?_eq_some_iff.1 hv).1]
    exact hv
  · refine er_cellAt h (2 + j) v ?_
    rw [← Array.getElem?_toList, e, List.getElem?_append_right (by simp)]
    simpa using hv
/-- a range in block r: its stretch, the trees of its cover in a row of its own -/
structure RaP (base : Nat) (w : World) (r B E : Nat) (l : List (Nat × Nat × List UInt8)) (s : Value) : Prop where
  hb : w.heap[r]? = some (.cells #[.bool true, .int .u64 (B : Int), .int .u64 (E : Int), s] 65 (0, 0))
  bb : base ≤ r
  own : w.ownsRow base 105 34 s l.length (ncells l)
  h32 : ∀ x ∈ l, x.2.2.length = 32
/-- its blocks -/
def RaS (r : Nat) (s : Value) (k : Nat) : Prop := k = r ∨ s.ownBlock = some k
theorem RaP.lt {base : Nat} {w : World} {r B E : Nat} {l : List (Nat × Nat × List UInt8)} {s : Value} (h : RaP base w r B E l s) (k : Nat) (hk : RaS r s k) : k < w.heap.size := by
  rcases hk with rfl | hk
  · exact (Array.getElem?_eq_some_iff.1 h.hb).1
  · exact ownsRow_lt h.own k hk
theorem RaP.ge {base : Nat} {w : World} {r B E : Nat} {l : List (Nat × Nat × List UInt8)} {s : Value} (h : RaP base w r B E l s) (k : Nat) (hk : RaS r s k) : base ≤ k := by
  rcases hk with rfl | hk
  · exact h.bb
  · exact ownsRow_fresh h.own k hk
theorem own_ne_blk {w : World} {b1 s1 n1 b : Nat} {e1 T : TypeId} {v1 : Value} {x1 : List Value} {c : Array Value} {fr : Nat × Nat} (h1 : w.ownsRow b1 e1 s1 v1 n1 x1) (h2 : w.heap[b]? = some (.cells c T fr)) (hne : e1 ≠ T) (k : Nat) (hk : v1.ownBlock = some k) : k ≠ b := by
  rintro rfl
  rcases h1.2 with ⟨rfl, _⟩ | ⟨g, cap, cur, rfl, _, hg, _⟩
  · cases hk
  · cases hk
    rw [hg] at h2
    cases h2
    exact hne rfl
theorem RaP.kept {base : Nat} {w w' : World} {r B E : Nat} {l : List (Nat × Nat × List UInt8)} {s : Value} {T : Nat → Prop} (h : RaP base w r B E l s) (k : Keep T w w') (hd : ∀ j, RaS r s j → ¬ T j) : RaP base w' r B E l s :=
  ⟨(k.block r (h.lt r (.inl rfl)) (hd _ (.inl rfl))).trans h.hb, h.bb, ownsRow_keep' h.own fun g hg => k.block g (h.lt g (.inr hg)) (hd _ (.inr hg)), h.h32⟩
theorem RaP.below {base : Nat} {w w' : World} {r B E : Nat} {l : List (Nat × Nat × List UInt8)} {s : Value} (h : RaP base w r B E l s) (k : Below w.heap.size w w') : RaP base w' r B E l s :=
  h.kept (Keep.of_below k (fun _ => False)) (fun _ _ h => h)
theorem RaP.mono {base base' : Nat} {w : World} {r B E : Nat} {l : List (Nat × Nat × List UInt8)} {s : Value} (h : RaP base w r B E l s) (hb : base' ≤ base) : RaP base' w r B E l s :=
  ⟨h.hb, Nat.le_trans hb h.bb, ownsRow_mono h.own hb, h.h32⟩
/-- no range, or one that no call made -/
def DeadR (w : World) (v : Value) : Prop :=
  v = .pointer none ∨ ∃ b, v = .pointer (some ⟨b, 0, none⟩) ∧ w.heap[b]? = some (.cells #[.bool false, .int .u64 0, .int .u64 0, .slice none 0 0] 65 (0, 0))
theorem DeadR.below {w w' : World} {v : Value} (h : DeadR w v) (k : Below w.heap.size w w') : DeadR w' v := by
  rcases h with h | ⟨b, h, hb⟩
  · exact .inl h
  · exact .inr ⟨b, h, (k.block b (Array.getElem?_eq_some_iff.1 hb).1).trans hb⟩
theorem there_any {base : Nat} {w : World} {r B E : Nat} {l : List (Nat × Nat × List UInt8)} {s : Value} (h : RaP base w r B E l s) : Calls Tryz.prog 88 #[.pointer (some ⟨r, 0, none⟩)] w fun e w' => e = .returned (.bool true) ∧ Below w.heap.size w w' := by
  have c1 := cell_at h.hb 0 _ rfl
  clear h
  go_enter Tryz.func88, Tryz.ntmps88
  go_wp2
  go_ret
  exact ⟨rfl, Below.refl _ _⟩
theorem rnew_any (w : World) (n : Nat) : Calls Tryz.prog 5 #[.int .u64 (n : Int)] w fun e w' => ∃ r, e = .returned (.pointer (some ⟨r, 0, none⟩)) ∧ RaP w.heap.size w' r n n [] (.slice none 0 0) ∧ Below w.heap.size w w' := by
  go_enter Tryz.func5, Tryz.ntmps5
  go_wp2
  go_ret
  exact ⟨w.heap.size, rfl, ⟨heap_alloc_new _ _, Nat.le_refl _, World.ownsRow_nil _ _ _ _, fun _ h => by cases h⟩, (Below.refl _ _).alloc (Nat.le_refl _) _⟩
end Go.Proofs.YtgbafjmklefoiaaGreatDoor
