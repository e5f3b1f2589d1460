/- Three digests and three texts in one block: what ShaPlays keeps. -/
import Derived.Test.YtfoknhogclfhhaaDoorDigP
import Derived.Test.YtfoknhogclfhhaaDoorSmA
import Derived.Test.YtfoknhogclfhhaaDoorTwB
import Derived.Test.YtfoknhogclfhhaaDoorOwn8
import Derived.Test.YtfoknhogclfhhaaDoorAlive
namespace Go.Proofs.YtfoknhogclfhhaaDoor
set_option maxRecDepth 100000
open Go.RowKit
def upd {α : Type} (f : Nat → α) (K : Nat) (x : α) : Nat → α := fun k => if k = K then x else f k
theorem upd_at {α : Type} (f : Nat → α) (K : Nat) (x : α) : upd f K x K = x := by simp [upd]
theorem upd_ne {α : Type} (f : Nat → α) {K k : Nat} (x : α) (h : k ≠ K) : upd f K x k = f k := by simp [upd, h]
/-- the block -/
def Gc (q : Nat → Value) (r : Nat → ByteArray) : Array Value := #[q 0, q 1, q 2, .string (r 0), .string (r 1), .string (r 2)]
theorem Gc_q (q : Nat → Value) (r : Nat → ByteArray) (K : Nat) (h : K < 3) : (Gc q r)[K]? = some (q K) := by
  match K, h with
  | 0, _ => rfl
  | 1, _ => rfl
  | 2, _ => rfl
theorem Gc_r (q : Nat → Value) (r : Nat → ByteArray) (K : Nat) (h : K < 3) : (Gc q r)[3 + K]? = some (.string (r K)) := by
  match K, h with
  | 0, _ => rfl
  | 1, _ => rfl
  | 2, _ => rfl
theorem Gc_setq (q : Nat → Value) (r : Nat → ByteArray) (K : Nat) (h : K < 3) (x : Value) : (Gc q r).setIfInBounds K x = Gc (upd q K x) r := by
  match K, h with
  | 0, _ => rfl
  | 1, _ => rfl
  | 2, _ => rfl
theorem Gc_setr (q : Nat → Value) (r : Nat → ByteArray) (K : Nat) (h : K < 3) (x : ByteArray) : (Gc q r).setIfInBounds (3 + K) (.string x) = Gc q (upd r K x) := by
  match K, h with
  | 0, _ => rfl
  | 1, _ => rfl
  | 2, _ => rfl
def ptr (p : Nat) : Value := .pointer (some ⟨p, 0, none⟩)
/-- three digests in blocks of their own -/
structure Digs (base : Nat) (w : World) (G : Nat) (p : Nat → Nat) (m : Nat → List UInt8) (S : Nat → Nat → Prop) : Prop where
  dg : ∀ k, k < 3 → DigP base w (p k) (m k) (S k)
  ap : ∀ i j, i < 3 → j < 3 → i ≠ j → ∀ b, S i b → ¬ S j b
  ng : ∀ i, i < 3 → ¬ S i G
/-- the world of three digests -/
structure PlW (base : Nat) (w : World) (G : Nat) (p : Nat → Nat) (r : Nat → ByteArray) (m : Nat → List UInt8) (S : Nat → Nat → Prop) : Prop where
  hG : w.heap[G]? = some (.cells (Gc (fun k => ptr (p k)) r) 28 (0, 0))
  gb : base ≤ G
  ds : Digs base w G p m S
theorem Digs.below {base : Nat} {w w' : World} {G : Nat} {p : Nat → Nat} {m : Nat → List UInt8} {S : Nat → Nat → Prop} (h : Digs base w G p m S) (k : Below w.heap.size w w') : Digs base w' G p m S :=
  ⟨fun i hi => (h.dg i hi).below k, h.ap, h.ng⟩
theorem Digs.kept {base : Nat} {w w' : World} {G : Nat} {p : Nat → Nat} {m : Nat → List UInt8} {S : Nat → Nat → Prop} {U : Nat → Prop} (h : Digs base w G p m S) (k : Keep U w w') (hd : ∀ i, i < 3 → ∀ b, S i b → ¬ U b) : Digs base w' G p m S :=
  ⟨fun i hi => (h.dg i hi).kept k (hd i hi), h.ap, h.ng⟩
theorem PlW.below {base : Nat} {w w' : World} {G : Nat} {p : Nat → Nat} {r : Nat → ByteArray} {m : Nat → List UInt8} {S : Nat → Nat → Prop} (h : PlW base w G p r m S) (k : Below w.heap.size w w') : PlW base w' G p r m S :=
  ⟨(k.block G (Array.getElem?_eq_some_iff.1 h.hG).1).trans h.hG, h.gb, h.ds.below k⟩
/-- one digest is another one now, in new blocks or in its own -/
theorem Digs.put {base : Nat} {w w' : World} {G : Nat} {p : Nat → Nat} {m : Nat → List UInt8} {S : Nat → Nat → Prop} (h : Digs base w G p m S) (K : Nat) {U : Nat → Prop} (hk : Keep U w w') (hU : ∀ i, i < 3 → i ≠ K → ∀ b, S i b → ¬ U b)
    (hG : G < w.heap.size) (p' : Nat) (m' : List UInt8) (S' : Nat → Prop) (hd : DigP base w' p' m' S') (hs : ∀ b, S' b → S K b ∨ w.heap.size ≤ b) : Digs base w' G (upd p K p') (upd m K m') (upd S K S') := by
  refine ⟨fun k hk3 => ?_, fun i j hi hj hij b hb => ?_, fun i hi => ?_⟩
  · by_cases e : k = K
    · subst e
      rw [upd_at, upd_at, upd_at]; exact hd
    · rw [upd_ne _ _ e, upd_ne _ _ e, upd_ne _ _ e]
      exact (h.dg k hk3).kept hk (hU k hk3 e)
  · by_cases ei : i = K
    · subst ei
      rw [upd_at] at hb
      rw [upd_ne _ _ (Ne.symm hij)]
      intro hb2
      rcases hs b hb with h1 | h1
      · exact h.ap i j hi hj hij b h1 hb2
      · have := (h.dg j hj).lt b hb2; omega
    · rw [upd_ne _ _ ei] at hb
      by_cases ej : j = K
      · subst ej
        rw [upd_at]
        intro hb2
        rcases hs b hb2 with h1 | h1
        · exact h.ap i j hi hj hij b hb h1
        · have := (h.dg i hi).lt b hb; omega
      · rw [upd_ne _ _ ej]; exact h.ap i j hi hj hij b hb
  · by_cases e : i = K
    · subst e
      rw [upd_at]
      intro hb
      rcases hs G hb with h1 | h1
      · exact h.ng i hi h1
      · omega
    · rw [upd_ne _ _ e]; exact h.ng i hi
theorem hso8 {L : List UInt8} (h : L.length = 32) : (Tryd.prog.info? 38).map (·.size) = some (ocells L).size := by rw [sizeH, ocells_size, h]
end Go.Proofs.YtfoknhogclfhhaaDoor
