/- A path in memory; what its two answers have in common. -/
import Derived.Test.YtmlpldkgennmkaaDoorVv
import Derived.Test.YtmlpldkgennmkaaDoorBey
import Derived.Test.YtmlpldkgennmkaaDoorG3
namespace Go.Proofs.YtmlpldkgennmkaaDoor
set_option maxRecDepth 100000
open Go.RowKit
def pcells (i s : Nat) (leaf root : List UInt8) (v : Value) : Array Value := #[.int .u64 (i : Int), .int .u64 (s : Int)] ++ (ocells leaf ++ (ocells root ++ #[v]))
theorem pcells_size {leaf root : List UInt8} (hl : leaf.length = 32) (hr : root.length = 32) (i s : Nat) (v : Value) : (pcells i s leaf root v).size = 67 := by
  unfold pcells; simp [ocells_size, hl, hr]
structure PathAt (w : World) (n i s : Nat) (leaf root : List UInt8) (v : Value) : Prop where
  blk : w.heap[n]? = some (.cells (pcells i s leaf root v) 27 (0, 0))
  ll : leaf.length = 32
  lr : root.length = 32
theorem PathAt.lt {w : World} {n i s : Nat} {leaf root : List UInt8} {v : Value} (h : PathAt w n i s leaf root v) : n < w.heap.size := (Array.getElem?_eq_some_iff.1 h.blk).1
theorem PathAt.below {w w' : World} {n i s : Nat} {leaf root : List UInt8} {v : Value} (h : PathAt w n i s leaf root v) (k : Below w.heap.size w w') : PathAt w' n i s leaf root v := ⟨(k.block n h.lt).trans h.blk, h.ll, h.lr⟩
theorem PathAt.cell0 {w : World} {n i s : Nat} {leaf root : List UInt8} {v : Value} (h : PathAt w n i s leaf root v) : w.cell? ⟨n, 0, none⟩ = some (.int .u64 (i : Int)) := er_cellAt h.blk 0 _ (by unfold pcells; rw [Array.getElem?_append_left (by simp)]; rfl)
theorem PathAt.cell1 {w : World} {n i s : Nat} {leaf root : List UInt8} {v : Value} (h : PathAt w n i s leaf root v) : w.cell? ⟨n, 1, none⟩ = some (.int .u64 (s : Int)) := er_cellAt h.blk 1 _ (by unfold pcells; rw [Array.getElem?_append_left (by simp)]; rfl)
theorem PathAt.cellL {w : World} {n i s : Nat} {leaf root : List UInt8} {v : Value} (h : PathAt w n i s leaf root v) : w.cell? ⟨n, 66, none⟩ = some v := er_cellAt h.blk 66 _ (by
  unfold pcells
  rw [Array.getElem?_append_right (by simp), Array.getElem?_append_right (by simp [ocells_size, h.ll]), Array.getElem?_append_right (by simp [ocells_size, h.ll, h.lr])]
  simp [ocells_size, h.ll, h.lr])
theorem PathAt.leafAt {w : World} {n i s : Nat} {leaf root : List UInt8} {v : Value} (h : PathAt w n i s leaf root v) : w.rangeAt n 2 (bcells leaf) := fun j x hx => er_cellAt h.blk (2 + j) x (by
  have hj := (List.getElem?_eq_some_iff.1 hx).1
  rw [bcells_length, h.ll] at hj
  unfold pcells
  rw [Array.getElem?_append_right (by simp), Array.getElem?_append_left (by simp [ocells_size, h.ll]; omega)]
  simpa [ocells] using hx)
theorem PathAt.rootAt {w : World} {n i s : Nat} {leaf root : List UInt8} {v : Value} (h : PathAt w n i s leaf root v) : w.rangeAt n 34 (bcells root) := fun j x hx => er_cellAt h.blk (34 + j) x (by
  have hj := (List.getElem?_eq_some_iff.1 hx).1
  rw [bcells_length, h.lr] at hj
  unfold pcells
  rw [Array.getElem?_append_right (by simp; omega), Array.getElem?_append_right (by simp [ocells_size, h.ll]; omega), Array.getElem?_append_left (by simp [ocells_size, h.ll, h.lr]; omega)]
  have : (34 + j - #[Value.int IntKind.u64 (i : Int), Value.int IntKind.u64 (s : Int)].size - (ocells leaf).size) = j := by simp [ocells_size, h.ll]; omega
  rw [this]
  simpa [ocells] using hx)
theorem PathAt.new (w : World) (i s : Nat) {leaf root : List UInt8} (v : Value) (hl : leaf.length = 32) (hr : root.length = 32) : PathAt (w.alloc (.cells (pcells i s leaf root v) 27)) w.heap.size i s leaf root v := ⟨heap_alloc_new _ _, hl, hr⟩
/-- the two answers of Root and of Inclusion, and that they are the same -/
theorem path_ways (A : Nat → Addr) (i s : Nat) (leaf : List UInt8) (hl : leaf.length = 32) (ps : List (List UInt8)) : ∃ (X : List UInt8) (ev : Value) (fc fa : Int), X.length = 32 ∧ rootV A i s leaf ps = .tuple #[.agg (ocells X), ev] ∧ rrootV i s leaf ps = .tuple #[.agg (ocells X), .agg #[.int .i64 fc, .int .i64 fa]] ∧
    (∀ u, Errs u A → Calls Tryd.prog 12 #[ev, .agg #[.int .i64 fc, .int .i64 fa]] u fun e w' => e = .returned (.bool true) ∧ Below u.heap.size u w') ∧
    (∀ u, Errs u A → Calls Tryd.prog 12 #[inclV A i s leaf ps X, .agg #[.int .i64 fc, .int .i64 fa]] u fun e w' => e = .returned (.bool true) ∧ Below u.heap.size u w') ∧
    ∀ root u, Errs u A → Calls Tryd.prog 12 #[inclV A i s leaf ps root, rinclV i s leaf ps root] u fun e w' => e = .returned (.bool true) ∧ Below u.heap.size u w' := by
  have sE : ∀ k, k < 16 → ∀ u, Errs u A → Calls Tryd.prog 12 #[errVal A k, .agg #[.int .i64 ((k : Int) + 1), .int .i64 (-1)]] u fun e w' => e = .returned (.bool true) ∧ Below u.heap.size u w' := fun k hk u hE =>
    (same_err hE (.plain k hk) ((k : Int) + 1) (-1)).mono fun e w' ⟨h1, h2⟩ => ⟨h1.trans (by simp), h2⟩
  have sN : ∀ u, Errs u A → Calls Tryd.prog 12 #[.nilIface, .agg #[.int .i64 0, .int .i64 0]] u fun e w' => e = .returned (.bool true) ∧ Below u.heap.size u w' := fun u hE =>
    (same_err hE .no 0 0).mono fun e w' ⟨h1, h2⟩ => ⟨h1.trans (by simp), h2⟩
  rcases root_ways i s leaf hl ps with ⟨k, hk, h1, h2, h3⟩ | ⟨L, hL, h1, h2, h3⟩
  · have hk16 : k < 16 := by omega
    refine ⟨zero32', errVal A k, _, _, zero32'_length, h1 A, h2, sE k hk16, ?_, fun root => ?_⟩
    · rw [(h3 zero32').1 A]; exact sE k hk16
    · rw [(h3 root).1 A, (h3 root).2]; exact sE k hk16
  · refine ⟨L, .nilIface, 0, 0, hL, h1 A, h2, sN, ?_, fun root => ?_⟩
    · rw [(h3 L).1 A, if_pos rfl]; exact sN
    · rw [(h3 root).1 A, (h3 root).2]
      by_cases h : L = root
      · rw [if_pos h, if_pos h]; exact sN
      · rw [if_neg h, if_neg h]; exact sE 9 (by decide)
end Go.Proofs.YtmlpldkgennmkaaDoor
