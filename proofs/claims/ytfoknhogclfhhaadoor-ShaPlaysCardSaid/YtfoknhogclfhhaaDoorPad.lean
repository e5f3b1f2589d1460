/- SHA of bytes: padding and the letters of the words (plain). -/
import Derived.Test.YtfoknhogclfhhaaDoorCopy
namespace Go.Proofs.YtfoknhogclfhhaaDoor
set_option maxRecDepth 100000
open Go.RowKit
def byteOf (x : Int) : UInt8 := UInt8.ofNat (x % 256).toNat
theorem bcell_byteOf (x : Int) : bcell (byteOf x) = .int .u8 (x % 256) := by
  unfold bcell byteOf
  congr 1
  have h1 : 0 ≤ x % 256 := Int.emod_nonneg _ (by decide)
  have h2 : x % 256 < 256 := Int.emod_lt_of_pos _ (by decide)
  rw [UInt8.toNat_ofNat']
  omega
/-- how many noughts stand behind the byte 128 -/
def zerosOf (n : Nat) : Nat := (119 - n % 64) % 64
def be8 (n : Nat) : Nat → List UInt8
  | 0 => []
  | j + 1 => be8 n j ++ [byteOf ((n : Int) / 2 ^ (56 - 8 * j))]
def tailOf (n : Nat) : List UInt8 := 128 :: List.replicate (zerosOf n) 0 ++ be8 (n * 8) 8
def pad (l : List UInt8) : List UInt8 := l ++ tailOf l.length
def out4 (x : Int) : List UInt8 := [byteOf (x / 16777216), byteOf (x / 65536), byteOf (x / 256), byteOf x]
def outOf (l : List Int) : List UInt8 := l.flatMap out4
/-- SHA-256 of bytes -/
def sha (l : List UInt8) : List UInt8 := outOf (fold R0 (pad l) ((pad l).length / 64)).list
theorem be8_length (n j : Nat) : (be8 n j).length = j := by
  induction j with
  | zero => rfl
  | succ j ih => simp [be8, ih]
theorem tailOf_length (n : Nat) : (tailOf n).length = zerosOf n + 9 := by simp [tailOf, be8_length]
theorem zerosOf_lt (n : Nat) : zerosOf n < 64 := by unfold zerosOf; omega
theorem outOf_length (l : List Int) : (outOf l).length = 4 * l.length := by
  induction l with
  | nil => rfl
  | cons x l ih => simp [outOf, out4] at ih ⊢; omega
theorem sha_length (l : List UInt8) : (sha l).length = 32 := by unfold sha; rw [outOf_length]; rfl
/-- a hash as a value -/
def hv (l : List UInt8) : Value := .agg (bcells l).toArray
/-- the first 4 t letters, then noughts -/
def outT (l : List Int) (t : Nat) : List UInt8 := outOf (l.take t) ++ List.replicate (32 - 4 * t) 0
def ocells (l : List UInt8) : Array Value := (bcells l).toArray
theorem ocells_size (l : List UInt8) : (ocells l).size = l.length := by simp [ocells, bcells]
theorem ocells_one (l : List UInt8) : (ocells l).all (·.oneCell') = true := by
  rw [Array.all_eq_true_iff_forall_mem]; intro x hx; simp [ocells, bcells] at hx; obtain ⟨y, _, rfl⟩ := hx; rfl
theorem outT_length (l : List Int) (t : Nat) (h : l.length = 8) (ht : t ≤ 8) : (outT l t).length = 32 := by
  simp [outT, outOf_length, h]; omega
theorem ocells_set (l : List UInt8) (i : Nat) (b : UInt8) : (ocells l).setIfInBounds i (bcell b) = ocells (l.set i b) := by
  apply Array.ext'
  simp [ocells, bcells]
theorem set_at {α : Type} (a b : List α) (x y : α) (i : Nat) (h : i = a.length) : (a ++ y :: b).set i x = a ++ x :: b := by
  subst h; simp
theorem outT_step (l : List Int) (t : Nat) (h : l.length = 8) (ht : t < 8) :
    ((((outT l t).set (4 * t) (byteOf (l.getD t 0 / 16777216))).set (4 * t + 1) (byteOf (l.getD t 0 / 65536))).set (4 * t + 2) (byteOf (l.getD t 0 / 256))).set (4 * t + 3) (byteOf (l.getD t 0)) = outT l (t + 1) := by
  have hl : (outOf (l.take t)).length = 4 * t := by rw [outOf_length]; simp; omega
  have hr : List.replicate (32 - 4 * t) (0 : UInt8) = 0 :: 0 :: 0 :: 0 :: List.replicate (32 - 4 * (t + 1)) 0 := by
    rw [show 32 - 4 * t = (32 - 4 * (t + 1)) + 1 + 1 + 1 + 1 by omega]; rfl
  have ht' : outOf (l.take (t + 1)) = outOf (l.take t) ++ out4 (l.getD t 0) := by
    have e1 : l.take (t + 1) = l.take t ++ [l[t]] := List.take_succ_eq_append_getElem (by omega)
    have e2 : l.getD t 0 = l[t] := by simp [List.getD, List.getElem?_eq_getElem (show t < l.length by omega)]
    unfold outOf
    rw [e1, e2, List.flatMap_append, List.flatMap_singleton]
  unfold outT
  rw [hr, ht', set_at _ _ _ _ _ hl.symm]
  rw [show ∀ (A : List UInt8) (a b c d : UInt8) (R : List UInt8), A ++ a :: b :: c :: d :: R = (A ++ [a]) ++ b :: c :: d :: R from fun _ _ _ _ _ _ => by simp, set_at _ _ _ _ _ (by simp [hl])]
  rw [show ∀ (A : List UInt8) (a b c d : UInt8) (R : List UInt8), (A ++ [a]) ++ b :: c :: d :: R = (A ++ [a] ++ [b]) ++ c :: d :: R from fun _ _ _ _ _ _ => by simp, set_at _ _ _ _ _ (by simp [hl])]
  rw [show ∀ (A : List UInt8) (a b c d : UInt8) (R : List UInt8), (A ++ [a] ++ [b]) ++ c :: d :: R = (A ++ [a] ++ [b] ++ [c]) ++ d :: R from fun _ _ _ _ _ _ => by simp, set_at _ _ _ _ _ (by simp [hl])]
  simp [out4]
theorem outT_zero (l : List Int) : outT l 0 = List.replicate 32 0 := by simp [outT, outOf]
theorem outT_whole (l : List Int) (h : l.length = 8) : outT l 8 = outOf l := by simp [outT, List.take_of_length_le (show l.length ≤ 8 by omega)]
theorem ocells_get (l : List UInt8) (i : Nat) (h : i < l.length) : (ocells l)[i]? = some (bcell l[i]) := by simp [ocells, bcells, h]
theorem store4 (w3 : World) (T : TypeId) (l : List Int) (k n t : Nat) (x : Int) (h : l.length = 8) (ht : t < 8) (hx : l.getD t 0 = x) :
    ((((((w3.alloc (.cells (ocells (outT l t)) T)).drewN k).drewN n).setCell ⟨w3.heap.size, 4 * t, none⟩ (.int .u8 (x / 16777216 % 256))).setCell ⟨w3.heap.size, 4 * t + 1, none⟩ (.int .u8 (x / 65536 % 256))).setCell
      ⟨w3.heap.size, 4 * t + 2, none⟩ (.int .u8 (x / 256 % 256))).setCell ⟨w3.heap.size, 4 * t + 3, none⟩ (.int .u8 (x % 256)) = (w3.alloc (.cells (ocells (outT l (t + 1))) T)).drewN (k + n) := by
  subst hx
  rw [World.drewN_drewN]
  rw [← bcell_byteOf, ← bcell_byteOf, ← bcell_byteOf, ← bcell_byteOf]
  rw [setCell_drewN', World.setCell_alloc_at _ _ _ _ _ rfl, ocells_set, setCell_drewN', World.setCell_alloc_at _ _ _ _ _ rfl, ocells_set,
    setCell_drewN', World.setCell_alloc_at _ _ _ _ _ rfl, ocells_set, setCell_drewN', World.setCell_alloc_at _ _ _ _ _ rfl, ocells_set, outT_step l t h ht]
theorem zeros_test (n t : Nat) (h : t < zerosOf n) : (n % 64 + (1 + t)) % 64 ≠ 56 := by unfold zerosOf at h; omega
theorem zeros_end (n : Nat) : (n % 64 + (1 + zerosOf n)) % 64 = 56 := by unfold zerosOf; omega
theorem own_to_src {w : World} {base : Nat} {v : Value} {l : List UInt8} {n : Nat} (h : w.ownsRow base 5 1 v n (bcells l)) : Src w v l := by
  have hl : l.length = n := by have := h.1; simpa [bcells] using this
  subst hl
  rcases id h.2 with ⟨rfl, h0⟩ | ⟨g, cap, cur, rfl, hb, hg, h1, h2, h3, h4⟩
  · exact ⟨none, 0, by rw [h0], by omega, by simp [maxLen], fun _ => rfl, fun hn => absurd (List.length_eq_zero_iff.1 h0) hn⟩
  · refine ⟨_, cap, rfl, h1, h2, (fun h => by cases h), fun _ => ⟨g, 0, rfl, (Array.getElem?_eq_some_iff.1 hg).1, fun i hi => ?_⟩⟩
    rw [Nat.zero_add, h.cellAt i (by omega), bcells_get _ _ hi]
end Go.Proofs.YtfoknhogclfhhaaDoor
