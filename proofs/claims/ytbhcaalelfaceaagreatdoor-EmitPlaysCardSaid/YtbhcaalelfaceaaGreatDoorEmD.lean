/- (*emit.Builder).Add of a builder that is there. -/
import Derived.Test.YtbhcaalelfaceaaGreatDoorEmN
import Derived.Test.YtbhcaalelfaceaaGreatDoorEmA
import Derived.Test.YtbhcaalelfaceaaGreatDoorEmS
import Derived.Test.YtbhcaalelfaceaaGreatDoorEmE
import Derived.Test.YtbhcaalelfaceaaGreatDoorOwn9
import Derived.Lib.SmallJoins
namespace Go.Proofs.YtbhcaalelfaceaaGreatDoor
set_option maxRecDepth 100000
open Go.RowKit
theorem xorN (n : Nat) (h : n < 18446744073709551616) : bits .xor .u64 IntKind.u64.max (n : Int) = ((18446744073709551615 - n : Nat) : Int) := by
  show IntKind.u64.wrap (((BitVec.ofInt 64 IntKind.u64.max) ^^^ (BitVec.ofInt 64 (n : Int))).toNat : Int) = _
  have e1 : BitVec.ofInt 64 IntKind.u64.max = BitVec.allOnes 64 := by decide
  have e2 : (BitVec.ofInt 64 (n : Int)).toNat = n := by rw [BitVec.toNat_ofInt]; omega
  rw [e1, BitVec.allOnes_xor, BitVec.toNat_not, e2]
  simp [IntKind.wrap, IntKind.bits, IntKind.signed]
  omega
/-- a slice that a region built, in a new block -/
def FreshV (own : Nat → Option Nat) (w : World) (v : Value) (base n : Nat) (T : TypeId) (X : Array Value) : Prop := ∃ g, v = .slice (some ⟨g, 0, none⟩) n n ∧ base ≤ g ∧ own g = none ∧ w.heap[g]? = some (.cells X T (0, 0))
theorem FreshV.of {own : Nat → Option Nat} {w : World} {v : Value} {base n : Nat} {T : TypeId} {X : Array Value} (h : BuiltV own w v n T X) (hb : ∀ k, v.ownBlock = some k → base ≤ k) : FreshV own w v base n T X := by
  obtain ⟨g, rfl, ho, hg⟩ := h
  exact ⟨g, rfl, hb g rfl, ho, hg⟩
theorem FreshV.stable {mk own own' : Nat → Option Nat} {w w' : World} {i base n : Nat} {v : Value} {T : TypeId} {X : Array Value} (h : FreshV own w v base n T X) (r : Rel mk i own w own' w') : FreshV own' w' v base n T X := by
  obtain ⟨g, rfl, hb, ho, hg⟩ := h
  exact .of (BuiltV.stable ⟨g, rfl, ho, hg⟩ r) (fun k hk => by cases hk; exact hb)
theorem row_of_built {w : World} {g base n size : Nat} {T : TypeId} {X : Array Value} (h : w.heap[g]? = some (.cells X T (0, 0))) (hb : base ≤ g) (hs : X.size = n * size) (hn : n ≤ maxLen) : w.ownsRow base T size (.slice (some ⟨g, 0, none⟩) n n) n X.toList :=
  ⟨by simpa using hs, .inr ⟨g, n, X, rfl, hb, h, Nat.le_refl _, hn, hs, by rw [← hs, ← Array.length_toList, List.take_length]⟩⟩
theorem ncells_one1 (n : Nat) (ls : List (List UInt8)) (p : List UInt8) : ncells (nodesB n ls p (0 + 1)) = (ncell (0, n, p)).toList := by simp [nodesB, ncells, hkB]
theorem hcells_take {ls : List (List UInt8)} (h : ∀ x ∈ ls, x.length = 32) (m : Nat) (hm : m ≤ ls.length) : (hcells ls).take (m * 32) = hcells (ls.take m) := by
  have e : hcells ls = hcells (ls.take m) ++ hcells (ls.drop m) := by unfold hcells; rw [← List.flatMap_append, List.take_append_drop]
  rw [e, List.take_left' (by rw [hcells_length (fun x hx => h x (List.mem_of_mem_take hx)), List.length_take]; omega)]
theorem clear_none (w : World) (ty : TypeId) (a : Option Addr) (k c : Nat) (hk : k ≤ 0) : (Builtin.clear_ #[51] ty #[.slice a k c]).run Tryz.prog w = .ok (.tuple #[]) w := by
  obtain rfl : k = 0 := by omega
  have hz : ∀ w, (zeroValue 66).run Tryz.prog w = .ok (.agg zeros32) w := Tryz.zeroValue66
  cases a <;> simp [Builtin.clear_, run_underlying underHs]
/-- what Add leaves -/
def AddR (w w' : World) (base b n : Nat) (ls : List (List UInt8)) (h : List UInt8) (s v : Value) : Prop :=
  w'.ownsRow w.heap.size 130 34 v (tones n + 1) (ncells (nodesB n ls h (tones n + 1))) ∧ Keep (BuS b s) w w' ∧ ∃ s', BuP base w' b (n + 1) (lsB n ls h) s' ∧ ∀ k, s'.ownBlock = some k → s.ownBlock = some k ∨ w.heap.size ≤ k
def VEa13 (b g c L k : Nat) (oi : Nat) (v : Value) (_own : Nat → Option Nat) (_w : World) : Prop :=
  match oi with
  | 0 => v = .pointer (some ⟨b, 0, none⟩)
  | 1 => v = .pointer (some ⟨b, 0, none⟩)
  | 2 => v = .pointer (some ⟨b, 2, none⟩)
  | 3 => v = .slice (some ⟨g, 0, none⟩) L c
  | 4 => v = .pointer (some ⟨b, 0, none⟩)
  | 5 => v = .pointer (some ⟨b, 0, none⟩)
  | 6 => v = .pointer (some ⟨b, 2, none⟩)
  | 7 => v = .slice (some ⟨g, 0, none⟩) L c
  | 8 => v = .int .i64 (L : Int)
  | 9 => v = .int .i64 (k : Int)
  | 10 => v = .int .i64 ((L - k : Nat) : Int)
  | 11 => v = .slice (some ⟨g, (L - k) * 32, none⟩) k (c - (L - k))
  | 12 => v = .slice (some ⟨g, (L - k) * 32, none⟩) k (c - (L - k))
  | _ => True
def VEa13mk : Nat → Option Nat := fun _ => none
theorem VEa13_mono (b g c L k : Nat) (oi oj : Nat) (v : Value) (own : Nat → Option Nat) (w : World) (own' : Nat → Option Nat) (w' : World) (hij : oi ≠ oj)   (h : VEa13 b g c L k oj v own w) (_r : Rel VEa13mk oi own w own' w') : VEa13 b g c L k oj v own' w' := by
  unfold VEa13 at h ⊢
  split at h
  · exact h
  · exact h
  · exact h
  · exact h
  · exact h
  · exact h
  · exact h
  · exact h
  · exact h
  · exact h
  · exact h
  · exact h
  · exact h
  · trivial

def VEa13f (b g c L k : Nat) (oi : Nat) (v : Value) (_own : Nat → Option Nat) (_w : World) : Prop :=
  match oi with
  | 0 => v = .pointer (some ⟨b, 0, none⟩)
  | 1 => v = .pointer (some ⟨b, 0, none⟩)
  | 2 => v = .pointer (some ⟨b, 2, none⟩)
  | 3 => v = .slice (some ⟨g, 0, none⟩) L c
  | 4 => v = .pointer (some ⟨b, 0, none⟩)
  | 5 => v = .pointer (some ⟨b, 0, none⟩)
  | 6 => v = .pointer (some ⟨b, 2, none⟩)
  | 7 => v = .slice (some ⟨g, 0, none⟩) L c
  | 8 => v = .int .i64 (L : Int)
  | 9 => v = .int .i64 (k : Int)
  | 10 => v = .int .i64 ((L - k : Nat) : Int)
  | 11 => v = .slice (some ⟨g, 0, none⟩) k (c - (L - k))
  | 12 => v = .slice (some ⟨g, 0, none⟩) k (c - (L - k))
  | _ => True
def VEa13fmk : Nat → Option Nat := fun _ => none
theorem VEa13f_mono (b g c L k : Nat) (oi oj : Nat) (v : Value) (own : Nat → Option Nat) (w : World) (own' : Nat → Option Nat) (w' : World) (hij : oi ≠ oj)   (h : VEa13f b g c L k oj v own w) (_r : Rel VEa13fmk oi own w own' w') : VEa13f b g c L k oj v own' w' := by
  unfold VEa13f at h ⊢
  split at h
  · exact h
  · exact h
  · exact h
  · exact h
  · exact h
  · exact h
  · exact h
  · exact h
  · exact h
  · exact h
  · exact h
  · exact h
  · exact h
  · trivial

def VEa13n (b _g c L k : Nat) (oi : Nat) (v : Value) (_own : Nat → Option Nat) (_w : World) : Prop :=
  match oi with
  | 0 => v = .pointer (some ⟨b, 0, none⟩)
  | 1 => v = .pointer (some ⟨b, 0, none⟩)
  | 2 => v = .pointer (some ⟨b, 2, none⟩)
  | 3 => v = .slice none L c
  | 4 => v = .pointer (some ⟨b, 0, none⟩)
  | 5 => v = .pointer (some ⟨b, 0, none⟩)
  | 6 => v = .pointer (some ⟨b, 2, none⟩)
  | 7 => v = .slice none L c
  | 8 => v = .int .i64 (L : Int)
  | 9 => v = .int .i64 (k : Int)
  | 10 => v = .int .i64 ((L - k : Nat) : Int)
  | 11 => v = .slice none k (c - (L - k))
  | 12 => v = .slice none k (c - (L - k))
  | _ => True
def VEa13nmk : Nat → Option Nat := fun _ => none
theorem VEa13n_mono (b g c L k : Nat) (oi oj : Nat) (v : Value) (own : Nat → Option Nat) (w : World) (own' : Nat → Option Nat) (w' : World) (hij : oi ≠ oj)   (h : VEa13n b g c L k oj v own w) (_r : Rel VEa13nmk oi own w own' w') : VEa13n b g c L k oj v own' w' := by
  unfold VEa13n at h ⊢
  split at h
  · exact h
  · exact h
  · exact h
  · exact h
  · exact h
  · exact h
  · exact h
  · exact h
  · exact h
  · exact h
  · exact h
  · exact h
  · exact h
  · trivial

/-- b by one operation, the row by another -/
def ownBR (b : Nat) (v : Value) (i j : Nat) : Nat → Option Nat := fun k => if k = b then some i else ownOf v j k
theorem ownBR_one (b : Nat) (v : Value) (i j : Nat) : ownBR b v i j b = some i := by unfold ownBR; rw [if_pos rfl]
theorem ownBR_two {b : Nat} {v : Value} {i j k : Nat} (h : v.ownBlock = some k) (hb : k ≠ b) : ownBR b v i j k = some j := by unfold ownBR; rw [if_neg hb, ownOf_at _ _ _ h]
theorem ownBR_none {b : Nat} {v : Value} {i j k : Nat} (h : v.ownBlock ≠ some k) (hb : k ≠ b) : ownBR b v i j k = none := by unfold ownBR; rw [if_neg hb, ownOf_not _ _ _ h]
theorem Since.keepBR {b : Nat} {v : Value} {i j : Nat} {own : Nat → Option Nat} {w0 w : World} (s : Since (ownBR b v i j) w0 own w) : Keep (fun k => k = b ∨ v.ownBlock = some k) w0 w :=
  ⟨s.os, s.tape, s.output, s.size, fun k hk hn => s.keep k hk (ownBR_none (fun e => hn (.inr e)) (fun e => hn (.inl e)))⟩
def StB (own : Nat → Option Nat) (w : World) (b n base m : Nat) (xs : List Value) (v0 : Value) (B : Nat) : Prop :=
  ∃ s', OutV own w b 18 60 #[.bool true, .int .u64 (n : Int), s'] ∧ GrownW own w 15 base 66 32 s' m xs v0 B
theorem grownW_setCell {own : Nat → Option Nat} {w : World} {i j base : Nat} {e : TypeId} {size : Nat} {v : Value} {n : Nat} {xs : List Value} {v0 : Value} {B : Nat} (h : GrownW own w i base e size v n xs v0 B) (b o : Nat) (x : Value) (hb : own b = some j) (hj : j ≠ i) : GrownW own (w.setCell ⟨b, o, none⟩ x) i base e size v n xs v0 B := by
  refine ⟨⟨ownsRow_setCell_ne h.1.1 ⟨b, o, none⟩ x (fun k hk e => ?_), h.1.2⟩, h.2⟩
  have e' : k = b := e
  subst e'
  rcases h.1.2 k hk with h1 | h1
  · rw [hb] at h1; exact hj (Option.some.inj h1)
  · rw [hb] at h1; cases h1
def VEa15 (ad : Option Addr) (b n L k c _N base B2 : Nat) (z : List UInt8) (l2 : List (List UInt8)) (oi : Nat) (v : Value) (own : Nat → Option Nat) (w : World) : Prop :=
  match oi with
  | 0 => v = .pointer (some ⟨b, 0, none⟩)
  | 1 => v = .pointer (some ⟨b, 0, none⟩)
  | 2 => v = .pointer (some ⟨b, 0, none⟩)
  | 3 => v = .pointer (some ⟨b, 2, none⟩)
  | 4 => v = .slice ad L c
  | 5 => v = .pointer (some ⟨b, 0, none⟩)
  | 6 => v = .pointer (some ⟨b, 0, none⟩)
  | 7 => v = .pointer (some ⟨b, 2, none⟩)
  | 8 => v = .slice ad L c
  | 9 => v = .int .i64 (L : Int)
  | 10 => v = .int .i64 (k : Int)
  | 11 => v = .int .i64 ((L - k : Nat) : Int)
  | 12 => v = .slice ad (L - k) c
  | 13 => v = .agg (ocells (z))
  | 14 => BuiltV own w v 1 66 (ocells z)
  | 15 => GrownW own w 15 base 66 32 v (L - k + 1) (hcells l2 ++ (ocells z).toList) (.slice ad (L - k) c) B2
  | 16 => v = .pointer (some ⟨b, 0, none⟩)
  | 17 => v = .pointer (some ⟨b, 2, none⟩)
  | 18 => StB own w b n base (L - k + 1) (hcells l2 ++ (ocells z).toList) (.slice ad (L - k) c) B2
  | _ => True
def VEa15mk : Nat → Option Nat := fun _ => none
theorem VEa15_mono (ad : Option Addr) (b n L k c N base B2 : Nat) (z : List UInt8) (l2 : List (List UInt8)) (oi oj : Nat) (v : Value) (own : Nat → Option Nat) (w : World) (own' : Nat → Option Nat) (w' : World) (hij : oi ≠ oj)  (hx0 : oi = 15 → oj = 18 → False) (h : VEa15 ad b n L k c N base B2 z l2 oj v own w) (r : Rel VEa15mk oi own w own' w') : VEa15 ad b n L k c N base B2 z l2 oj v own' w' := by
  unfold VEa15 at h ⊢
  split at h
  · exact h
  · exact h
  · exact h
  · exact h
  · exact h
  · exact h
  · exact h
  · exact h
  · exact h
  · exact h
  · exact h
  · exact h
  · exact h
  · exact h
  · exact h.stable r
  · exact h.stable r hij
  · exact h
  · exact h
  · obtain ⟨s1, h1, h2⟩ := h; exact ⟨s1, h1.stable r hij, h2.stable r (fun e => hx0 e rfl)⟩
  · trivial

theorem Since.keepRow {a : Value} {i : Nat} {own : Nat → Option Nat} {w0 w : World} (s : Since (ownOf a i) w0 own w) : Keep (fun k => a.ownBlock = some k) w0 w :=
  ⟨s.os, s.tape, s.output, s.size, fun k hk hn => s.keep k hk (by unfold ownOf; rw [if_neg hn])⟩
def VEa10 (b g c L t N : Nat) (x y z : List UInt8) (oi : Nat) (v : Value) (own : Nat → Option Nat) (w : World) : Prop :=
  match oi with
  | 0 => v = .pointer (some ⟨b, 0, none⟩)
  | 1 => v = .pointer (some ⟨b, 0, none⟩)
  | 2 => v = .pointer (some ⟨b, 2, none⟩)
  | 3 => v = .slice (some ⟨g, 0, none⟩) L c
  | 4 => v = .pointer (some ⟨b, 0, none⟩)
  | 5 => v = .pointer (some ⟨b, 0, none⟩)
  | 6 => v = .pointer (some ⟨b, 2, none⟩)
  | 7 => v = .slice (some ⟨g, 0, none⟩) L c
  | 8 => v = .int .i64 (L : Int)
  | 9 => v = .int .i64 ((L - 1 : Nat) : Int)
  | 10 => v = .int .i64 (t : Int)
  | 11 => v = .int .i64 ((L - 1 - t : Nat) : Int)
  | 12 => v = .pointer (some ⟨g, (L - 1 - t) * 32, none⟩)
  | 13 => v = .agg (ocells (x))
  | 14 => v = .agg (ocells (y))
  | 15 => v = .agg (ocells (z))
  | 16 => OutV own w (N) 16 66 (ocells z)
  | _ => True
def VEa10mk : Nat → Option Nat := fun _ => none
theorem VEa10_mono (b g c L t N : Nat) (x y z : List UInt8) (oi oj : Nat) (v : Value) (own : Nat → Option Nat) (w : World) (own' : Nat → Option Nat) (w' : World) (hij : oi ≠ oj)   (h : VEa10 b g c L t N x y z oj v own w) (r : Rel VEa10mk oi own w own' w') : VEa10 b g c L t N x y z oj v own' w' := by
  unfold VEa10 at h ⊢
  split at h
  · exact h
  · exact h
  · exact h
  · exact h
  · exact h
  · exact h
  · exact h
  · exact h
  · exact h
  · exact h
  · exact h
  · exact h
  · exact h
  · exact h
  · exact h
  · exact h
  · exact h.stable r hij
  · trivial

def VEa11 (b n t _N B1 : Nat) (z : List UInt8) (a7 : Option Addr) (c7 : Nat) (nl : List (Nat × Nat × List UInt8)) (oi : Nat) (v : Value) (own : Nat → Option Nat) (w : World) : Prop :=
  match oi with
  | 0 => v = .slice a7 (t + 1) c7
  | 1 => v = .int .i64 (t : Int)
  | 2 => v = .int .i64 ((t + 1 : Nat) : Int)
  | 3 => v = .int .u8 ((t + 1 : Nat) : Int)
  | 4 => v = .pointer (some ⟨b, 0, none⟩)
  | 5 => v = .pointer (some ⟨b, 0, none⟩)
  | 6 => v = .pointer (some ⟨b, 1, none⟩)
  | 7 => v = .int .u64 (n : Int)
  | 8 => v = .int .i64 (t : Int)
  | 9 => v = .int .i64 ((t + 1 : Nat) : Int)
  | 10 => v = .int .u64 ((n / 2 ^ (t + 1) : Nat) : Int)
  | 11 => v = .agg #[.int .u8 ((t + 1 : Nat) : Int), .int .u64 ((n / 2 ^ (t + 1) : Nat) : Int)]
  | 12 => v = .agg (ocells (z))
  | 13 => v = .agg (ncell (t + 1, n / 2 ^ (t + 1), z))
  | 14 => BuiltV own w v 1 130 (ncell (t + 1, n / 2 ^ (t + 1), z))
  | 15 => GrownV own w 15 B1 130 34 v (t + 1 + 1) (ncells nl ++ (ncell (t + 1, n / 2 ^ (t + 1), z)).toList)
  | 16 => GrownV own w 15 B1 130 34 v (t + 1 + 1) (ncells nl ++ (ncell (t + 1, n / 2 ^ (t + 1), z)).toList)
  | _ => True
def VEa11mk : Nat → Option Nat := fun _ => none
theorem VEa11_mono (b n t N B1 : Nat) (z : List UInt8) (a7 : Option Addr) (c7 : Nat) (nl : List (Nat × Nat × List UInt8)) (oi oj : Nat) (v : Value) (own : Nat → Option Nat) (w : World) (own' : Nat → Option Nat) (w' : World) (hij : oi ≠ oj)  (hx0 : oi = 15 → oj = 16 → False) (h : VEa11 b n t N B1 z a7 c7 nl oj v own w) (r : Rel VEa11mk oi own w own' w') : VEa11 b n t N B1 z a7 c7 nl oj v own' w' := by
  unfold VEa11 at h ⊢
  split at h
  · exact h
  · exact h
  · exact h
  · exact h
  · exact h
  · exact h
  · exact h
  · exact h
  · exact h
  · exact h
  · exact h
  · exact h
  · exact h
  · exact h
  · exact h.stable r
  · exact h.stable r hij
  · exact h.stable r (fun e => hx0 e rfl)
  · trivial

def VEa6 (b n _N B1 : Nat) (p : List UInt8) (oi : Nat) (v : Value) (own : Nat → Option Nat) (w : World) : Prop :=
  match oi with
  | 0 => v = .pointer (some ⟨b, 0, none⟩)
  | 1 => v = .pointer (some ⟨b, 0, none⟩)
  | 2 => v = .pointer (some ⟨b, 1, none⟩)
  | 3 => v = .int .u64 (n : Int)
  | 4 => v = .agg #[.int .u8 0, .int .u64 (n : Int)]
  | 5 => v = .agg (ocells (p))
  | 6 => v = .agg (ncell (0, n, p))
  | 7 => FreshV own w v B1 1 130 (ncell (0, n, p))
  | 8 => FreshV own w v B1 1 130 (ncell (0, n, p))
  | _ => True
def VEa6mk : Nat → Option Nat := fun _ => none
theorem VEa6_mono (b n N B1 : Nat) (p : List UInt8) (oi oj : Nat) (v : Value) (own : Nat → Option Nat) (w : World) (own' : Nat → Option Nat) (w' : World) (hij : oi ≠ oj)   (h : VEa6 b n N B1 p oj v own w) (r : Rel VEa6mk oi own w own' w') : VEa6 b n N B1 p oj v own' w' := by
  unfold VEa6 at h ⊢
  split at h
  · exact h
  · exact h
  · exact h
  · exact h
  · exact h
  · exact h
  · exact h
  · exact h.stable r
  · exact h.stable r
  · trivial

set_option maxHeartbeats 3200000 in
theorem add_any (A : Nat → Addr) (base : Nat) (w : World) (b n : Nat) (ls : List (List UInt8)) (s : Value) (hB : BuP base w b n ls s) (hlen : ls.length = pcnt n) (hn : n < 9223372036854775808) (p : List UInt8) (hh : p.length = 32) (hT : Hs A w) (hz : TabZ w) (hg : 4 < w.heap.size) (hbase : base ≤ w.heap.size) :
    Calls Tryz.prog 70 #[.pointer (some ⟨b, 0, none⟩), hv p] w fun e w' => ∃ v, e = .returned (.tuple #[v, .nilIface]) ∧ AddR w w' base b n ls p s v := by
  have kb := er_al (Below.refl w.heap.size w) (.cells (ocells p) 66)
  have xN := (HashAt.new w p hh).1
  have hbl := hB.lt b (.inl rfl)
  have h2 := hB.below kb
  have hH := hB.hss
  obtain ⟨a, c, hs, hc1, hc2, hc3⟩ := own_shape hB.own
  have hfm := Go.Joins.ownsRow_forms hB.own
  subst hs
  have c0 := cell_at h2.hb 0 _ rfl
  have c1 := cell_at h2.hb 1 _ rfl
  have xb := h2.hb
  have hxs : n + 1 < 18446744073709551616 := by omega
  have ctz := tz_any (18446744073709551615 - n) (w.alloc (.cells (ocells p) 66)) (by omega) (hz.below hg kb)
  rw [ctz_not hxs] at ctz
  have hk1 := tones_le n
  have hk2 := tones_64 n
  rw [← hlen] at hk1
  obtain ⟨k, hk⟩ : ∃ k, k = tones n := ⟨_, rfl⟩
  rw [← hk] at ctz hk1 hk2
  unfold hv
  go_enter Tryz.func70, Tryz.ntmps70
  go_upto_region 1 with (fail)
  change Code.wp _ _ _ _ (w.alloc (.cells (ocells p) 66))
  generalize w.alloc (.cells (ocells p) 66) = W at kb xN h2 c0 c1 xb ctz ⊢
  obtain ⟨N, hN⟩ : ∃ N, N = w.heap.size := ⟨_, rfl⟩
  rw [← hN] at xN hbl kb ⊢
  have hNW : N < W.heap.size := (Array.getElem?_eq_some_iff.1 xN).1
  have XN := Bx.mk xN; have KB := Bx.mk kb; have BL := Bx.mk hbl; have HN := Bx.mk hN; have HH := Bx.mk hH; have HFM := Bx.mk hfm; have CTZ := Bx.mk ctz; have HL := Bx.mk hh; have HLEN := Bx.mk hlen; have HK := Bx.mk hk; have NW := Bx.mk (Nat.le_of_lt hNW)
  have XB := Bx.mk (fun u (hu : Below N W u) => (hu.block b hbl).trans xb)
  have HT := Bx.mk hT; have HB := Bx.mk hB; have HBS := Bx.mk hbase
  clear xN kb xb hbl hN hH hfm h2 hB hT hz hg hbase hlen hk ctz hh hNW
  have n1 : ((n : Int) == 9223372036854775808) = false := by rw [beq_eq_false_iff_ne]; omega
  have n2 : (n == 9223372036854775808) = false := by rw [beq_eq_false_iff_ne]; omega
  have XO := Bx.mk (xorN n (by omega))
  go_upto_region 5 with (fail)
  go_wp2_with fail
  rw [XO.out]
  refine CTZ.out.mono ?_
  rintro e u0 ⟨rfl, hu0⟩
  rw [hu0]
  clear hu0 c0 c1 CTZ n1 n2 XO
  obtain ⟨B1, hB1⟩ : ∃ B1, B1 = W.heap.size := ⟨_, rfl⟩
  have HB1 := Bx.mk (Nat.le_of_eq hB1); have NB1 := Bx.mk (show N < B1 by have := (Array.getElem?_eq_some_iff.1 XN.out).1; omega)
  clear hB1
  go_upto_region 6 with (fail)
  refine wp_region_own4 (n := 116) VEa6mk (fun _ => none) (VEa6 b n N B1 p) (by kernel_rfl) (by kernel_rfl) rfl (fun _ _ => rfl) (fun j i hj _ => by cases hj) ?_ ?_ ?_
  · exact fun oi oj v own w own' w' hij _ h r => VEa6_mono b n N B1 p oi oj v own w own' w' hij h r
  · intro oi o hi f u own hsame hsn hfr hlate hkeep hdep
    have hb6 := hsn.below (B := W.heap.size) (fun _ _ => rfl) (Nat.le_refl _)
    have hbN := hb6.mono NW.out
    match oi, hi with
    | 0, hi =>
      cases (show some _ = some o from hi)
      have e0 : f.tmps.getD 0 undef = .pointer (some ⟨b, 0, none⟩) := hsame.slot 0 (fun i o h => invB2_not 0 (by kernel_rfl) h)
      clear hdep hsame hi hlate hfr hkeep
      exact .inl ⟨wanted_none rfl, showsO_move hsn rfl _ rfl e0⟩
    | 1, hi =>
      cases (show some _ = some o from hi)
      have e32 : (f.tmps.getD 32 undef) = .pointer (some ⟨b, 0, none⟩) := depO (V := (VEa6 b n N B1 p)) hdep 0 32 (by kernel_rfl) (by kernel_rfl)
      clear hdep hsame hi hlate hfr hkeep
      exact .inl ⟨wanted_none rfl, showsO_pure hsn rfl (.pointer (some ⟨b, 0, none⟩)) (by simp only [execOp, Act.eval]; go_simp) rfl⟩
    | 2, hi =>
      cases (show some _ = some o from hi)
      have e33 : (f.tmps.getD 33 undef) = .pointer (some ⟨b, 0, none⟩) := depO (V := (VEa6 b n N B1 p)) hdep 1 33 (by kernel_rfl) (by kernel_rfl)
      clear hdep hsame hi hlate hfr hkeep
      exact .inl ⟨wanted_none rfl, showsO_pure hsn rfl (.pointer (some ⟨b, 1, none⟩)) (by simp only [execOp, Act.eval]; go_simp) rfl⟩
    | 3, hi =>
      cases (show some _ = some o from hi)
      have e34 : (f.tmps.getD 34 undef) = .pointer (some ⟨b, 1, none⟩) := depO (V := (VEa6 b n N B1 p)) hdep 2 34 (by kernel_rfl) (by kernel_rfl)
      clear hdep hsame hi hlate hfr hkeep
      have c1 := er_cellAt (XB.out u hbN) 1 _ rfl
      exact .inl ⟨wanted_none rfl, showsO_pure hsn rfl (.int .u64 (n : Int)) (by simp only [execOp, Act.eval]; go_simp) rfl⟩
    | 4, hi =>
      cases (show some _ = some o from hi)
      have e35 : (f.tmps.getD 35 undef) = .int .u64 (n : Int) := depO (V := (VEa6 b n N B1 p)) hdep 3 35 (by kernel_rfl) (by kernel_rfl)
      clear hdep hsame hi hlate hfr hkeep
      exact .inl ⟨wanted_none rfl, showsO_build hsn rfl 119 #[(1, .tmp 35)] rfl #[.int .u8 0, .int .u64 (n : Int)] (by simp only [List.map_toArray, List.map_cons, List.map_nil, Act.eval]; rw [e35]; exact built_coord1 _) rfl⟩
    | 5, hi =>
      cases (show some _ = some o from hi)
      have e3 : f.tmps.getD 3 undef = .pointer (some ⟨N, 0, none⟩) := hsame.slot 3 (fun i o h => invB2_not 3 (by kernel_rfl) h)
      clear hdep hsame hi hlate hfr hkeep
      exact .inl ⟨wanted_none rfl, showsO_row hsn rfl 66 (.tmp 3) rfl N e3 (ocells p) ((hb6.block N (Array.getElem?_eq_some_iff.1 XN.out).1).trans XN.out) underH rfl (hszL HL.out) rfl⟩
    | 6, hi =>
      cases (show some _ = some o from hi)
      have e36 : (f.tmps.getD 36 undef) = .agg #[.int .u8 0, .int .u64 (n : Int)] := depO (V := (VEa6 b n N B1 p)) hdep 4 36 (by kernel_rfl) (by kernel_rfl)
      have e37 : (f.tmps.getD 37 undef) = .agg (ocells (p)) := depO (V := (VEa6 b n N B1 p)) hdep 5 37 (by kernel_rfl) (by kernel_rfl)
      clear hdep hsame hi hlate hfr hkeep
      exact .inl ⟨wanted_none rfl, showsO_build hsn rfl 130 #[(0, .tmp 36), (1, .tmp 37)] rfl (ncell (0, n, p)) (by simp only [List.map_toArray, List.map_cons, List.map_nil, Act.eval]; rw [e36, e37]; exact built_node 0 n p HL.out) rfl⟩
    | 7, hi =>
      cases (show some _ = some o from hi)
      have e38 : (f.tmps.getD 38 undef) = .agg (ncell (0, n, p)) := depO (V := (VEa6 b n N B1 p)) hdep 6 38 (by kernel_rfl) (by kernel_rfl)
      clear hdep hsame hi hlate hfr hkeep
      exact .inl ⟨wanted_none rfl, showsO_built hsn rfl 1 130 (ncell (0, n, p)) (run_bs_node u (.tmp 38) rfl (ncell (0, n, p)) (ncell_size HL.out) e38) (fun h => .of h fun k hk => by cases hk; exact Nat.le_trans HB1.out hb6.size)⟩
    | 8, hi =>
      cases (show some _ = some o from hi)
      have e39 : FreshV own u (f.tmps.getD 39 undef) B1 1 130 (ncell (0, n, p)) := depO (V := (VEa6 b n N B1 p)) hdep 7 39 (by kernel_rfl) (by kernel_rfl)
      clear hdep hsame hi hlate hfr hkeep
      exact .inl ⟨wanted_none rfl, showsO_assign hsn rfl _ rfl e39⟩
    | n + 9, hi => exact absurd hi (by simp)
  · intro f u own hsame hsn hall
    have q32 : f.tmps.getD 32 undef = .pointer (some ⟨b, 0, none⟩) := finO (V := (VEa6 b n N B1 p)) hall 0 32 rfl
    have q33 : f.tmps.getD 33 undef = .pointer (some ⟨b, 0, none⟩) := finO (V := (VEa6 b n N B1 p)) hall 1 33 rfl
    have q34 : f.tmps.getD 34 undef = .pointer (some ⟨b, 1, none⟩) := finO (V := (VEa6 b n N B1 p)) hall 2 34 rfl
    have q35 : f.tmps.getD 35 undef = .int .u64 (n : Int) := finO (V := (VEa6 b n N B1 p)) hall 3 35 rfl
    have q36 : f.tmps.getD 36 undef = .agg #[.int .u8 0, .int .u64 (n : Int)] := finO (V := (VEa6 b n N B1 p)) hall 4 36 rfl
    have q37 : f.tmps.getD 37 undef = .agg (ocells (p)) := finO (V := (VEa6 b n N B1 p)) hall 5 37 rfl
    have q38 : f.tmps.getD 38 undef = .agg (ncell (0, n, p)) := finO (V := (VEa6 b n N B1 p)) hall 6 38 rfl
    obtain ⟨g39, q39, f39, o39, m39⟩ := finO (V := (VEa6 b n N B1 p)) hall 7 39 rfl
    obtain ⟨g7, q7, f7, o7, m7⟩ := finO (V := (VEa6 b n N B1 p)) hall 8 7 rfl
    obtain rfl := frame_eq hsame [(32, .pointer (some ⟨b, 0, none⟩)), (33, .pointer (some ⟨b, 0, none⟩)), (34, .pointer (some ⟨b, 1, none⟩)), (35, .int .u64 (n : Int)), (36, .agg #[.int .u8 0, .int .u64 (n : Int)]), (37, .agg (ocells (p))), (38, .agg (ncell (0, n, p))), (39, .slice (some ⟨g39, 0, none⟩) 1 1), (7, .slice (some ⟨g7, 0, none⟩) 1 1)] (by kernel_rfl) ⟨q32, q33, q34, q35, q36, q37, q38, q39, q7, trivial⟩
    clear hall hsame q32 q33 q34 q35 q36 q37 q38 q39 q7
    simp only [List.foldl, List.setIfInBounds_toArray, List.set_cons_succ, List.set_cons_zero]
    have b6 := hsn.below (B := W.heap.size) (fun _ _ => rfl) (Nat.le_refl _)
    have ZN := Bx.mk ((b6.block N (Array.getElem?_eq_some_iff.1 XN.out).1).trans XN.out)
    have BZ := Bx.mk (b6.mono NW.out)
    have R7 := Bx.mk (row_of_built m7 f7 (size := 34) (n := 1) (by rw [ncell_size HL.out]) (by unfold maxLen; decide))
    clear b6 m7 m39 f7 f39 o7 o39 hsn
    have HT0 := Bx.mk (fun u (hu : Below N W u) => HT.out.tab.below (by rw [← HN.out]; exact KB.out.trans hu))
    go_wp2_with fail
    go_loopw [7, 8, 41] (fun ov _ iv wr => ∃ t : Nat, t ≤ k ∧ iv = .int .i64 (t : Int) ∧ wr.ownsRow B1 130 34 ov (t + 1) (ncells (nodesB n ls p (t + 1))) ∧ wr.heap[N]? = some (.cells (ocells (hkB ls p t)) 66 (0, 0)) ∧ Below N W wr) (fun _ _ iv _ => k - (intOf iv).toNat)
    case atStart => exact ⟨0, Nat.zero_le _, rfl, by rw [ncells_one1]; exact R7.out, ZN.out, BZ.out⟩
    case round =>
      obtain ⟨t, ht, rfl, ho, hN', hb⟩ := hrel
      obtain ⟨a7, c7, rfl, q1, q2, q3⟩ := own_shape ho
      have HO := Bx.mk ho; have YN := Bx.mk hN'; have BW := Bx.mk hb
      clear q1 q2 q3 ho hN' hb
      by_cases hlt : t < k
      · have hln : 0 < ls.length := by omega
        obtain ⟨g, c', e⟩ : ∃ g c', Value.slice a ls.length c = .slice (some ⟨g, 0, none⟩) ls.length c' := by
          rcases HFM.out with ⟨_, h0⟩ | h1
          · omega
          · exact h1
        cases e
        obtain ⟨_, _, _, B, off, e, hBl, hr, hxl⟩ := HH.out.at (ls.length - 1 - t) (by omega)
        cases e
        rw [Nat.zero_add] at hr
        have hst : hkB ls p (t + 1) = nd (ls[ls.length - 1 - t]'(by omega)) (hkB ls p t) := by
          show nd (ls.getD _ _) _ = _
          rw [List.getD_eq_getElem?_getD, List.getElem?_eq_getElem (by omega)]; rfl
        have hyl := hkB_length (ls := ls) HL.out t
        have hnp := ncells_push (nodesB n ls p (t + 1)) (t + 1, n / 2 ^ (t + 1), hkB ls p (t + 1))
        rw [← nodesB_succ] at hnp
        obtain ⟨x, hx⟩ : ∃ x, x = ls[ls.length - 1 - t]'(by omega) := ⟨_, rfl⟩
        rw [← hx] at hr hxl hst
        have h3 := YN.out
        have h4 := HO.out
        clear YN HO
        obtain ⟨y, hy⟩ : ∃ y, y = hkB ls p t := ⟨_, rfl⟩
        rw [← hy] at hst hyl h3
        obtain ⟨z, hz⟩ : ∃ z, z = nd x y := ⟨_, rfl⟩
        rw [← hz] at hst
        rw [hst] at hnp
        have hzl : z.length = 32 := by rw [hz]; exact nd_length _ _
        obtain ⟨nl, hnl⟩ : ∃ nl, nl = nodesB n ls p (t + 1) := ⟨_, rfl⟩
        rw [← hnl] at hnp h4
        obtain ⟨L, hL⟩ : ∃ L, L = ls.length := ⟨_, rfl⟩
        rw [← hL] at hr
        have RX := Bx.mk (fun u (hu : Below N W u) => rangeAt_below hr hBl (by rw [← HN.out]; exact KB.out.trans hu))
        have XL := Bx.mk hxl; have YL := Bx.mk hyl; have ZL := Bx.mk hzl; have HST := Bx.mk hst; have YN := Bx.mk h3; have HO := Bx.mk h4; have HNP := Bx.mk hnp; have LL := Bx.mk hL
        have NDE := Bx.mk (show sha (1 :: (x ++ y)) = z from hz.symm)
        have TL := Bx.mk (show t < L by omega); have L64 := Bx.mk (show L ≤ 64 by rw [hL, HLEN.out]; exact pcnt_le n); have T64 := Bx.mk (show t < 64 by omega); have TK := Bx.mk hlt
        have M1 := Bx.mk (show t + 1 + 1 ≤ maxLen by unfold maxLen; omega); have M2 := Bx.mk (show (t + 1 + 1) * 48 ≤ 140737488355328 by omega)
        have NK := Bx.mk (show ¬ (Value.slice a7 (t + 1) c7).ownBlock = some N from fun e => by have := ownsRow_fresh h4 N e; have := NB1.out; omega)
        obtain ⟨i0, hi0, hz0, hz1, hz2⟩ := info_parts infoNz
        have RI := Bx.mk (And.intro hi0 (And.intro hz0 (And.intro hz1 hz2)))
        clear hi0 hz0 hz1 hz2 hr hBl hxl hyl hzl hst h3 h4 hnp hx hy hz hnl hL hln ht
        go_upto_region 10 with (fail)
        refine wp_region_own8 (n := 116) VEa10mk (ownTwo N N 16 16) (VEa10 b g c L t N x y z) (by kernel_rfl) (by kernel_rfl) rfl (fun k hk => ownTwo_none (by have := (Array.getElem?_eq_some_iff.1 YN.out).1; omega) (by have := (Array.getElem?_eq_some_iff.1 YN.out).1; omega)) (fun j i hj _ => by cases hj) ?_ ?_ ?_
        · exact fun oi oj v own w own' w' hij _ h r => VEa10_mono b g c L t N x y z oi oj v own w own' w' hij h r
        · intro oi o hi f u own hsame hsn hfr hlate hkeep8 hdep
          have hkeep := hkeep8 _ (.inl rfl)
          have hk6 := hsn.keepTwo
          have hbN : Below N W u := BW.out.trans (hk6.below (Nat.le_trans NW.out BW.out.size) (fun k hk => by omega))
          match oi, hi with
          | 0, hi =>
            cases (show some _ = some o from hi)
            have e0 : f.tmps.getD 0 undef = .pointer (some ⟨b, 0, none⟩) := hsame.slot 0 (fun i o h => invB2_not 0 (by kernel_rfl) h)
            clear hdep hsame hi hlate hfr hkeep
            exact .inl ⟨wanted_none rfl, showsO_move hsn rfl _ rfl e0⟩
          | 1, hi =>
            cases (show some _ = some o from hi)
            have e44 : (f.tmps.getD 44 undef) = .pointer (some ⟨b, 0, none⟩) := depO (V := (VEa10 b g c L t N x y z)) hdep 0 44 (by kernel_rfl) (by kernel_rfl)
            clear hdep hsame hi hlate hfr hkeep
            exact .inl ⟨wanted_none rfl, showsO_pure hsn rfl (.pointer (some ⟨b, 0, none⟩)) (by simp only [execOp, Act.eval]; go_simp) rfl⟩
          | 2, hi =>
            cases (show some _ = some o from hi)
            have e45 : (f.tmps.getD 45 undef) = .pointer (some ⟨b, 0, none⟩) := depO (V := (VEa10 b g c L t N x y z)) hdep 1 45 (by kernel_rfl) (by kernel_rfl)
            clear hdep hsame hi hlate hfr hkeep
            exact .inl ⟨wanted_none rfl, showsO_pure hsn rfl (.pointer (some ⟨b, 2, none⟩)) (by simp only [execOp, Act.eval]; go_simp) rfl⟩
          | 3, hi =>
            cases (show some _ = some o from hi)
            have e46 : (f.tmps.getD 46 undef) = .pointer (some ⟨b, 2, none⟩) := depO (V := (VEa10 b g c L t N x y z)) hdep 2 46 (by kernel_rfl) (by kernel_rfl)
            clear hdep hsame hi hlate hfr hkeep
            have c2 := er_cellAt (XB.out u hbN) 2 _ rfl
            rw [← LL.out] at c2
            exact .inl ⟨wanted_none rfl, showsO_pure hsn rfl (.slice (some ⟨g, 0, none⟩) L c) (by simp only [execOp, Act.eval]; go_simp) rfl⟩
          | 4, hi =>
            cases (show some _ = some o from hi)
            have e0 : f.tmps.getD 0 undef = .pointer (some ⟨b, 0, none⟩) := hsame.slot 0 (fun i o h => invB2_not 0 (by kernel_rfl) h)
            clear hdep hsame hi hlate hfr hkeep
            exact .inl ⟨wanted_none rfl, showsO_move hsn rfl _ rfl e0⟩
          | 5, hi =>
            cases (show some _ = some o from hi)
            have e48 : (f.tmps.getD 48 undef) = .pointer (some ⟨b, 0, none⟩) := depO (V := (VEa10 b g c L t N x y z)) hdep 4 48 (by kernel_rfl) (by kernel_rfl)
            clear hdep hsame hi hlate hfr hkeep
            exact .inl ⟨wanted_none rfl, showsO_pure hsn rfl (.pointer (some ⟨b, 0, none⟩)) (by simp only [execOp, Act.eval]; go_simp) rfl⟩
          | 6, hi =>
            cases (show some _ = some o from hi)
            have e49 : (f.tmps.getD 49 undef) = .pointer (some ⟨b, 0, none⟩) := depO (V := (VEa10 b g c L t N x y z)) hdep 5 49 (by kernel_rfl) (by kernel_rfl)
            clear hdep hsame hi hlate hfr hkeep
            exact .inl ⟨wanted_none rfl, showsO_pure hsn rfl (.pointer (some ⟨b, 2, none⟩)) (by simp only [execOp, Act.eval]; go_simp) rfl⟩
          | 7, hi =>
            cases (show some _ = some o from hi)
            have e50 : (f.tmps.getD 50 undef) = .pointer (some ⟨b, 2, none⟩) := depO (V := (VEa10 b g c L t N x y z)) hdep 6 50 (by kernel_rfl) (by kernel_rfl)
            clear hdep hsame hi hlate hfr hkeep
            have c2 := er_cellAt (XB.out u hbN) 2 _ rfl
            rw [← LL.out] at c2
            exact .inl ⟨wanted_none rfl, showsO_pure hsn rfl (.slice (some ⟨g, 0, none⟩) L c) (by simp only [execOp, Act.eval]; go_simp) rfl⟩
          | 8, hi =>
            cases (show some _ = some o from hi)
            have e51 : (f.tmps.getD 51 undef) = .slice (some ⟨g, 0, none⟩) L c := depO (V := (VEa10 b g c L t N x y z)) hdep 7 51 (by kernel_rfl) (by kernel_rfl)
            clear hdep hsame hi hlate hfr hkeep
            exact .inl ⟨wanted_none rfl, showsO_pure hsn rfl (.int .i64 (L : Int)) (by simp only [execOp, Act.eval]; go_simp) rfl⟩
          | 9, hi =>
            cases (show some _ = some o from hi)
            have e52 : (f.tmps.getD 52 undef) = .int .i64 (L : Int) := depO (V := (VEa10 b g c L t N x y z)) hdep 8 52 (by kernel_rfl) (by kernel_rfl)
            clear hdep hsame hi hlate hfr hkeep
            have hl := TL.out
            have hm := L64.out
            exact .inl ⟨wanted_none rfl, showsO_pure hsn rfl (.int .i64 ((L - 1 : Nat) : Int)) (by simp only [execOp, Act.eval]; go_simp; simp [IntKind.wrap, IntKind.bits, IntKind.signed]; omega) rfl⟩
          | 10, hi =>
            cases (show some _ = some o from hi)
            have e8 : f.tmps.getD 8 undef = .int .i64 (t : Int) := hsame.slot 8 (fun i o h => invB2_not 8 (by kernel_rfl) h)
            clear hdep hsame hi hlate hfr hkeep
            exact .inl ⟨wanted_none rfl, showsO_move hsn rfl _ rfl e8⟩
          | 11, hi =>
            cases (show some _ = some o from hi)
            have e53 : (f.tmps.getD 53 undef) = .int .i64 ((L - 1 : Nat) : Int) := depO (V := (VEa10 b g c L t N x y z)) hdep 9 53 (by kernel_rfl) (by kernel_rfl)
            have e54 : (f.tmps.getD 54 undef) = .int .i64 (t : Int) := depO (V := (VEa10 b g c L t N x y z)) hdep 10 54 (by kernel_rfl) (by kernel_rfl)
            clear hdep hsame hi hlate hfr hkeep
            have hl := TL.out
            have hm := L64.out
            exact .inl ⟨wanted_none rfl, showsO_pure hsn rfl (.int .i64 ((L - 1 - t : Nat) : Int)) (by simp only [execOp, Act.eval]; go_simp; simp [IntKind.wrap, IntKind.bits, IntKind.signed]; omega) rfl⟩
          | 12, hi =>
            cases (show some _ = some o from hi)
            have e47 : (f.tmps.getD 47 undef) = .slice (some ⟨g, 0, none⟩) L c := depO (V := (VEa10 b g c L t N x y z)) hdep 3 47 (by kernel_rfl) (by kernel_rfl)
            have e55 : (f.tmps.getD 55 undef) = .int .i64 ((L - 1 - t : Nat) : Int) := depO (V := (VEa10 b g c L t N x y z)) hdep 11 55 (by kernel_rfl) (by kernel_rfl)
            clear hdep hsame hi hlate hfr hkeep
            have hl := TL.out
            have hl2 : ¬ L ≤ L - 1 - t := by omega
            exact .inl ⟨wanted_none rfl, showsO_pure hsn rfl (.pointer (some ⟨g, (L - 1 - t) * 32, none⟩)) (by simp only [execOp, Act.eval]; go_simp) rfl⟩
          | 13, hi =>
            cases (show some _ = some o from hi)
            have e56 : (f.tmps.getD 56 undef) = .pointer (some ⟨g, (L - 1 - t) * 32, none⟩) := depO (V := (VEa10 b g c L t N x y z)) hdep 12 56 (by kernel_rfl) (by kernel_rfl)
            clear hdep hsame hi hlate hfr hkeep
            exact .inl ⟨wanted_none rfl, showsO_mid hsn rfl 66 (.tmp 56) rfl g ((L - 1 - t) * 32) e56 (bcells x) (RX.out u hbN) underH rfl (hszB' XL.out) rfl⟩
          | 14, hi =>
            cases (show some _ = some o from hi)
            have e3 : f.tmps.getD 3 undef = .pointer (some ⟨N, 0, none⟩) := hsame.slot 3 (fun i o h => invB2_not 3 (by kernel_rfl) h)
            clear hdep hsame hi hlate hfr hkeep
            have hgu := (hkeep8 16 (.inr (by kernel_rfl)) N (Array.getElem?_eq_some_iff.1 YN.out).1 (ownTwo_one _ _ _ _)).trans YN.out
            exact .inl ⟨wanted_none rfl, showsO_row hsn rfl 66 (.tmp 3) rfl N e3 (ocells y) hgu underH rfl (hszL YL.out) rfl⟩
          | 15, hi =>
            cases (show some _ = some o from hi)
            have e57 : (f.tmps.getD 57 undef) = .agg (ocells (x)) := depO (V := (VEa10 b g c L t N x y z)) hdep 13 57 (by kernel_rfl) (by kernel_rfl)
            have e58 : (f.tmps.getD 58 undef) = .agg (ocells (y)) := depO (V := (VEa10 b g c L t N x y z)) hdep 14 58 (by kernel_rfl) (by kernel_rfl)
            clear hdep hsame hi hlate hfr hkeep
            have cn := node_any u x y XL.out YL.out (HT0.out u hbN)
            rw [hv_agg, hv_agg, hv_agg, show sha (1 :: (x ++ y)) = z from NDE.out] at cn
            exact .inl ⟨wanted_none rfl, showsO_call1 hsn rfl 83 #[.agg (ocells (x)), .agg (ocells (y))] (by simp only [execOp, Act.eval]; go_simp) (cn) (fun _ => rfl)⟩
          | 16, hi =>
            cases (show some _ = some o from hi)
            have e3 : f.tmps.getD 3 undef = .pointer (some ⟨N, 0, none⟩) := hsame.slot 3 (fun i o h => invB2_not 3 (by kernel_rfl) h)
            have e59 : (f.tmps.getD 59 undef) = .agg (ocells (z)) := depO (V := (VEa10 b g c L t N x y z)) hdep 15 59 (by kernel_rfl) (by kernel_rfl)
            clear hdep hsame hi hlate hfr hkeep
            exact .inl ⟨wanted_none rfl, showsO_store_out hsn rfl 66 (.tmp 3) (.tmp 59) rfl (N) e3 YN.out (ownTwo_one _ _ _ _) (ocells z) e59 (hszL ZL.out) (by rw [ocells_size, ocells_size, YL.out, ZL.out]) (ocells_one _) (fun _ h => h)⟩
          | n + 17, hi => exact absurd hi (by simp)
        · intro f u own hsame hsn hall
          have q44 : f.tmps.getD 44 undef = .pointer (some ⟨b, 0, none⟩) := finO (V := (VEa10 b g c L t N x y z)) hall 0 44 rfl
          have q45 : f.tmps.getD 45 undef = .pointer (some ⟨b, 0, none⟩) := finO (V := (VEa10 b g c L t N x y z)) hall 1 45 rfl
          have q46 : f.tmps.getD 46 undef = .pointer (some ⟨b, 2, none⟩) := finO (V := (VEa10 b g c L t N x y z)) hall 2 46 rfl
          have q47 : f.tmps.getD 47 undef = .slice (some ⟨g, 0, none⟩) L c := finO (V := (VEa10 b g c L t N x y z)) hall 3 47 rfl
          have q48 : f.tmps.getD 48 undef = .pointer (some ⟨b, 0, none⟩) := finO (V := (VEa10 b g c L t N x y z)) hall 4 48 rfl
          have q49 : f.tmps.getD 49 undef = .pointer (some ⟨b, 0, none⟩) := finO (V := (VEa10 b g c L t N x y z)) hall 5 49 rfl
          have q50 : f.tmps.getD 50 undef = .pointer (some ⟨b, 2, none⟩) := finO (V := (VEa10 b g c L t N x y z)) hall 6 50 rfl
          have q51 : f.tmps.getD 51 undef = .slice (some ⟨g, 0, none⟩) L c := finO (V := (VEa10 b g c L t N x y z)) hall 7 51 rfl
          have q52 : f.tmps.getD 52 undef = .int .i64 (L : Int) := finO (V := (VEa10 b g c L t N x y z)) hall 8 52 rfl
          have q53 : f.tmps.getD 53 undef = .int .i64 ((L - 1 : Nat) : Int) := finO (V := (VEa10 b g c L t N x y z)) hall 9 53 rfl
          have q54 : f.tmps.getD 54 undef = .int .i64 (t : Int) := finO (V := (VEa10 b g c L t N x y z)) hall 10 54 rfl
          have q55 : f.tmps.getD 55 undef = .int .i64 ((L - 1 - t : Nat) : Int) := finO (V := (VEa10 b g c L t N x y z)) hall 11 55 rfl
          have q56 : f.tmps.getD 56 undef = .pointer (some ⟨g, (L - 1 - t) * 32, none⟩) := finO (V := (VEa10 b g c L t N x y z)) hall 12 56 rfl
          have q57 : f.tmps.getD 57 undef = .agg (ocells (x)) := finO (V := (VEa10 b g c L t N x y z)) hall 13 57 rfl
          have q58 : f.tmps.getD 58 undef = .agg (ocells (y)) := finO (V := (VEa10 b g c L t N x y z)) hall 14 58 rfl
          have q59 : f.tmps.getD 59 undef = .agg (ocells (z)) := finO (V := (VEa10 b g c L t N x y z)) hall 15 59 rfl
          obtain ⟨o_16, m_16⟩ : OutV own u (N) 16 66 (ocells z) := finN (V := (VEa10 b g c L t N x y z)) hall 16 rfl
          obtain rfl := frame_eq hsame [(44, .pointer (some ⟨b, 0, none⟩)), (45, .pointer (some ⟨b, 0, none⟩)), (46, .pointer (some ⟨b, 2, none⟩)), (47, .slice (some ⟨g, 0, none⟩) L c), (48, .pointer (some ⟨b, 0, none⟩)), (49, .pointer (some ⟨b, 0, none⟩)), (50, .pointer (some ⟨b, 2, none⟩)), (51, .slice (some ⟨g, 0, none⟩) L c), (52, .int .i64 (L : Int)), (53, .int .i64 ((L - 1 : Nat) : Int)), (54, .int .i64 (t : Int)), (55, .int .i64 ((L - 1 - t : Nat) : Int)), (56, .pointer (some ⟨g, (L - 1 - t) * 32, none⟩)), (57, .agg (ocells (x))), (58, .agg (ocells (y))), (59, .agg (ocells (z)))] (by kernel_rfl) ⟨q44, q45, q46, q47, q48, q49, q50, q51, q52, q53, q54, q55, q56, q57, q58, q59, trivial⟩
          clear hall hsame q44 q45 q46 q47 q48 q49 q50 q51 q52 q53 q54 q55 q56 q57 q58 q59
          simp only [List.foldl, List.setIfInBounds_toArray, List.set_cons_succ, List.set_cons_zero]
          have hk6 := hsn.keepTwo
          have bN : Below N W u := BW.out.trans (hk6.below (Nat.le_trans NW.out BW.out.size) (fun k hk => by omega))
          have oo := own_keep HO.out hk6 (fun j hj e => by have := ownsRow_fresh HO.out j hj; have := NB1.out; omega)
          have HBW := Bx.mk (show B1 ≤ u.heap.size from Nat.le_trans HB1.out (Nat.le_trans BW.out.size hk6.size))
          clear BW HO YN o_16 hk6 hsn
          have BW := Bx.mk bN; have HO := Bx.mk oo; have ZN := Bx.mk m_16
          clear bN oo m_16
          obtain ⟨wz, hwz⟩ : ∃ wz, wz = u := ⟨_, rfl⟩
          rw [← hwz] at BW HO ZN HBW ⊢
          clear hwz
          go_upto_region 11 with (fail)
          refine wp_region_own4 (n := 116) VEa11mk (ownOf (.slice a7 (t + 1) c7) 15) (VEa11 b n t N B1 z a7 c7 nl) (by kernel_rfl) (by kernel_rfl) rfl (ownOf_top HO.out 15) (fun j i hj _ => by cases hj) ?_ ?_ ?_
          · exact fun oi oj v own w own' w' hij hnd h r => VEa11_mono b n t N B1 z a7 c7 nl oi oj v own w own' w' hij (by rintro rfl rfl; exact Bool.noConfusion (hnd.symm.trans (show depB _ 16 15 = true by kernel_rfl))) h r
          · intro oi o hi f u own hsame hsn hfr hlate hkeep hdep
            have hb6 := hsn.keepRow (a := .slice a7 (t + 1) c7)
            have hbN : Below N W u := BW.out.trans (hb6.below (Nat.le_trans NW.out BW.out.size) (fun k hk => by have := ownsRow_fresh HO.out k hk; have := NB1.out; omega))
            match oi, hi with
            | 0, hi =>
              cases (show some _ = some o from hi)
              have e7 : f.tmps.getD 7 undef = .slice a7 (t + 1) c7 := hlate 7 (late_of (by kernel_rfl))
              clear hdep hsame hi hlate hfr hkeep
              exact .inl ⟨wanted_none rfl, showsO_move hsn rfl _ rfl e7⟩
            | 1, hi =>
              cases (show some _ = some o from hi)
              have e8 : f.tmps.getD 8 undef = .int .i64 (t : Int) := hsame.slot 8 (fun i o h => invB2_not 8 (by kernel_rfl) h)
              clear hdep hsame hi hlate hfr hkeep
              exact .inl ⟨wanted_none rfl, showsO_move hsn rfl _ rfl e8⟩
            | 2, hi =>
              cases (show some _ = some o from hi)
              have e61 : (f.tmps.getD 61 undef) = .int .i64 (t : Int) := depO (V := (VEa11 b n t N B1 z a7 c7 nl)) hdep 1 61 (by kernel_rfl) (by kernel_rfl)
              clear hdep hsame hi hlate hfr hkeep
              have hl := T64.out
              exact .inl ⟨wanted_none rfl, showsO_pure hsn rfl (.int .i64 ((t + 1 : Nat) : Int)) (by simp only [execOp, Act.eval]; go_simp; simp [IntKind.wrap, IntKind.bits, IntKind.signed]; omega) rfl⟩
            | 3, hi =>
              cases (show some _ = some o from hi)
              have e62 : (f.tmps.getD 62 undef) = .int .i64 ((t + 1 : Nat) : Int) := depO (V := (VEa11 b n t N B1 z a7 c7 nl)) hdep 2 62 (by kernel_rfl) (by kernel_rfl)
              clear hdep hsame hi hlate hfr hkeep
              have hl := T64.out
              exact .inl ⟨wanted_none rfl, showsO_pure hsn rfl (.int .u8 ((t + 1 : Nat) : Int)) (by simp only [execOp, Act.eval]; go_simp; simp [IntKind.wrap, IntKind.bits, IntKind.signed]; omega) rfl⟩
            | 4, hi =>
              cases (show some _ = some o from hi)
              have e0 : f.tmps.getD 0 undef = .pointer (some ⟨b, 0, none⟩) := hsame.slot 0 (fun i o h => invB2_not 0 (by kernel_rfl) h)
              clear hdep hsame hi hlate hfr hkeep
              exact .inl ⟨wanted_none rfl, showsO_move hsn rfl _ rfl e0⟩
            | 5, hi =>
              cases (show some _ = some o from hi)
              have e64 : (f.tmps.getD 64 undef) = .pointer (some ⟨b, 0, none⟩) := depO (V := (VEa11 b n t N B1 z a7 c7 nl)) hdep 4 64 (by kernel_rfl) (by kernel_rfl)
              clear hdep hsame hi hlate hfr hkeep
              exact .inl ⟨wanted_none rfl, showsO_pure hsn rfl (.pointer (some ⟨b, 0, none⟩)) (by simp only [execOp, Act.eval]; go_simp) rfl⟩
            | 6, hi =>
              cases (show some _ = some o from hi)
              have e65 : (f.tmps.getD 65 undef) = .pointer (some ⟨b, 0, none⟩) := depO (V := (VEa11 b n t N B1 z a7 c7 nl)) hdep 5 65 (by kernel_rfl) (by kernel_rfl)
              clear hdep hsame hi hlate hfr hkeep
              exact .inl ⟨wanted_none rfl, showsO_pure hsn rfl (.pointer (some ⟨b, 1, none⟩)) (by simp only [execOp, Act.eval]; go_simp) rfl⟩
            | 7, hi =>
              cases (show some _ = some o from hi)
              have e66 : (f.tmps.getD 66 undef) = .pointer (some ⟨b, 1, none⟩) := depO (V := (VEa11 b n t N B1 z a7 c7 nl)) hdep 6 66 (by kernel_rfl) (by kernel_rfl)
              clear hdep hsame hi hlate hfr hkeep
              have c1 := er_cellAt (XB.out u hbN) 1 _ rfl
              exact .inl ⟨wanted_none rfl, showsO_pure hsn rfl (.int .u64 (n : Int)) (by simp only [execOp, Act.eval]; go_simp) rfl⟩
            | 8, hi =>
              cases (show some _ = some o from hi)
              have e8 : f.tmps.getD 8 undef = .int .i64 (t : Int) := hsame.slot 8 (fun i o h => invB2_not 8 (by kernel_rfl) h)
              clear hdep hsame hi hlate hfr hkeep
              exact .inl ⟨wanted_none rfl, showsO_move hsn rfl _ rfl e8⟩
            | 9, hi =>
              cases (show some _ = some o from hi)
              have e68 : (f.tmps.getD 68 undef) = .int .i64 (t : Int) := depO (V := (VEa11 b n t N B1 z a7 c7 nl)) hdep 8 68 (by kernel_rfl) (by kernel_rfl)
              clear hdep hsame hi hlate hfr hkeep
              have hl := T64.out
              exact .inl ⟨wanted_none rfl, showsO_pure hsn rfl (.int .i64 ((t + 1 : Nat) : Int)) (by simp only [execOp, Act.eval]; go_simp; simp [IntKind.wrap, IntKind.bits, IntKind.signed]; omega) rfl⟩
            | 10, hi =>
              cases (show some _ = some o from hi)
              have e67 : (f.tmps.getD 67 undef) = .int .u64 (n : Int) := depO (V := (VEa11 b n t N B1 z a7 c7 nl)) hdep 7 67 (by kernel_rfl) (by kernel_rfl)
              have e69 : (f.tmps.getD 69 undef) = .int .i64 ((t + 1 : Nat) : Int) := depO (V := (VEa11 b n t N B1 z a7 c7 nl)) hdep 9 69 (by kernel_rfl) (by kernel_rfl)
              clear hdep hsame hi hlate hfr hkeep
              have hl := T64.out
              exact .inl ⟨wanted_none rfl, showsO_pure hsn rfl (.int .u64 ((n / 2 ^ (t + 1) : Nat) : Int)) (by simp only [execOp, Act.eval]; go_simp) rfl⟩
            | 11, hi =>
              cases (show some _ = some o from hi)
              have e63 : (f.tmps.getD 63 undef) = .int .u8 ((t + 1 : Nat) : Int) := depO (V := (VEa11 b n t N B1 z a7 c7 nl)) hdep 3 63 (by kernel_rfl) (by kernel_rfl)
              have e70 : (f.tmps.getD 70 undef) = .int .u64 ((n / 2 ^ (t + 1) : Nat) : Int) := depO (V := (VEa11 b n t N B1 z a7 c7 nl)) hdep 10 70 (by kernel_rfl) (by kernel_rfl)
              clear hdep hsame hi hlate hfr hkeep
              exact .inl ⟨wanted_none rfl, showsO_build hsn rfl 119 #[(0, .tmp 63), (1, .tmp 70)] rfl #[.int .u8 ((t + 1 : Nat) : Int), .int .u64 ((n / 2 ^ (t + 1) : Nat) : Int)] (by simp only [List.map_toArray, List.map_cons, List.map_nil, Act.eval]; rw [e63, e70]; exact built_coord _ _) rfl⟩
            | 12, hi =>
              cases (show some _ = some o from hi)
              have e3 : f.tmps.getD 3 undef = .pointer (some ⟨N, 0, none⟩) := hsame.slot 3 (fun i o h => invB2_not 3 (by kernel_rfl) h)
              clear hdep hsame hi hlate hfr hkeep
              exact .inl ⟨wanted_none rfl, showsO_row hsn rfl 66 (.tmp 3) rfl N e3 (ocells z) ((hb6.block N (Array.getElem?_eq_some_iff.1 ZN.out).1 (NK.out)).trans ZN.out) underH rfl (hszL ZL.out) rfl⟩
            | 13, hi =>
              cases (show some _ = some o from hi)
              have e71 : (f.tmps.getD 71 undef) = .agg #[.int .u8 ((t + 1 : Nat) : Int), .int .u64 ((n / 2 ^ (t + 1) : Nat) : Int)] := depO (V := (VEa11 b n t N B1 z a7 c7 nl)) hdep 11 71 (by kernel_rfl) (by kernel_rfl)
              have e72 : (f.tmps.getD 72 undef) = .agg (ocells (z)) := depO (V := (VEa11 b n t N B1 z a7 c7 nl)) hdep 12 72 (by kernel_rfl) (by kernel_rfl)
              clear hdep hsame hi hlate hfr hkeep
              exact .inl ⟨wanted_none rfl, showsO_build hsn rfl 130 #[(0, .tmp 71), (1, .tmp 72)] rfl (ncell (t + 1, n / 2 ^ (t + 1), z)) (by simp only [List.map_toArray, List.map_cons, List.map_nil, Act.eval]; rw [e71, e72]; exact built_node _ _ z ZL.out) rfl⟩
            | 14, hi =>
              cases (show some _ = some o from hi)
              have e73 : (f.tmps.getD 73 undef) = .agg (ncell (t + 1, n / 2 ^ (t + 1), z)) := depO (V := (VEa11 b n t N B1 z a7 c7 nl)) hdep 13 73 (by kernel_rfl) (by kernel_rfl)
              clear hdep hsame hi hlate hfr hkeep
              exact .inl ⟨wanted_none rfl, showsO_built hsn rfl 1 130 (ncell (t + 1, n / 2 ^ (t + 1), z)) (run_bs_node u (.tmp 73) rfl (ncell (t + 1, n / 2 ^ (t + 1), z)) (ncell_size ZL.out) e73) (fun h => h)⟩
            | 15, hi =>
              cases (show some _ = some o from hi)
              have e60 : (f.tmps.getD 60 undef) = .slice a7 (t + 1) c7 := depO (V := (VEa11 b n t N B1 z a7 c7 nl)) hdep 0 60 (by kernel_rfl) (by kernel_rfl)
              have e74 : BuiltV own u (f.tmps.getD 74 undef) 1 130 (ncell (t + 1, n / 2 ^ (t + 1), z)) := depO (V := (VEa11 b n t N B1 z a7 c7 nl)) hdep 14 74 (by kernel_rfl) (by kernel_rfl)
              clear hdep hsame hi hlate hfr
              exact .inl ⟨wanted_none rfl, showsO_append hsn hkeep rfl (.tmp 60) (.tmp 74) 83 rfl B1 130 i0 (.agg zerosN) 34 48 underNs RI.out.1 RI.out.2.1 RI.out.2.2.1 RI.out.2.2.2 rfl (by decide) (.slice a7 (t + 1) c7) (t + 1) (ncells nl) e60 HO.out (ownOf_at _ _) e74 (by rw [ncell_size ZL.out]) (ncell_one _) M1.out M2.out HBW.out (fun _ _ _ h => h)⟩
            | 16, hi =>
              cases (show some _ = some o from hi)
              have e75 : GrownV own u 15 B1 130 34 (f.tmps.getD 75 undef) (t + 1 + 1) (ncells nl ++ (ncell (t + 1, n / 2 ^ (t + 1), z)).toList) := depO (V := (VEa11 b n t N B1 z a7 c7 nl)) hdep 15 75 (by kernel_rfl) (by kernel_rfl)
              clear hdep hsame hi hlate hfr hkeep
              exact .inl ⟨wanted_none rfl, showsO_assign hsn rfl _ rfl e75⟩
            | n + 17, hi => exact absurd hi (by simp)
          · intro f u own hsame hsn hall
            have q60 : f.tmps.getD 60 undef = .slice a7 (t + 1) c7 := finO (V := (VEa11 b n t N B1 z a7 c7 nl)) hall 0 60 rfl
            have q61 : f.tmps.getD 61 undef = .int .i64 (t : Int) := finO (V := (VEa11 b n t N B1 z a7 c7 nl)) hall 1 61 rfl
            have q62 : f.tmps.getD 62 undef = .int .i64 ((t + 1 : Nat) : Int) := finO (V := (VEa11 b n t N B1 z a7 c7 nl)) hall 2 62 rfl
            have q63 : f.tmps.getD 63 undef = .int .u8 ((t + 1 : Nat) : Int) := finO (V := (VEa11 b n t N B1 z a7 c7 nl)) hall 3 63 rfl
            have q64 : f.tmps.getD 64 undef = .pointer (some ⟨b, 0, none⟩) := finO (V := (VEa11 b n t N B1 z a7 c7 nl)) hall 4 64 rfl
            have q65 : f.tmps.getD 65 undef = .pointer (some ⟨b, 0, none⟩) := finO (V := (VEa11 b n t N B1 z a7 c7 nl)) hall 5 65 rfl
            have q66 : f.tmps.getD 66 undef = .pointer (some ⟨b, 1, none⟩) := finO (V := (VEa11 b n t N B1 z a7 c7 nl)) hall 6 66 rfl
            have q67 : f.tmps.getD 67 undef = .int .u64 (n : Int) := finO (V := (VEa11 b n t N B1 z a7 c7 nl)) hall 7 67 rfl
            have q68 : f.tmps.getD 68 undef = .int .i64 (t : Int) := finO (V := (VEa11 b n t N B1 z a7 c7 nl)) hall 8 68 rfl
            have q69 : f.tmps.getD 69 undef = .int .i64 ((t + 1 : Nat) : Int) := finO (V := (VEa11 b n t N B1 z a7 c7 nl)) hall 9 69 rfl
            have q70 : f.tmps.getD 70 undef = .int .u64 ((n / 2 ^ (t + 1) : Nat) : Int) := finO (V := (VEa11 b n t N B1 z a7 c7 nl)) hall 10 70 rfl
            have q71 : f.tmps.getD 71 undef = .agg #[.int .u8 ((t + 1 : Nat) : Int), .int .u64 ((n / 2 ^ (t + 1) : Nat) : Int)] := finO (V := (VEa11 b n t N B1 z a7 c7 nl)) hall 11 71 rfl
            have q72 : f.tmps.getD 72 undef = .agg (ocells (z)) := finO (V := (VEa11 b n t N B1 z a7 c7 nl)) hall 12 72 rfl
            have q73 : f.tmps.getD 73 undef = .agg (ncell (t + 1, n / 2 ^ (t + 1), z)) := finO (V := (VEa11 b n t N B1 z a7 c7 nl)) hall 13 73 rfl
            obtain ⟨g74, q74, o74, m74⟩ : BuiltV own u (f.tmps.getD 74 undef) 1 130 (ncell (t + 1, n / 2 ^ (t + 1), z)) := finO (V := (VEa11 b n t N B1 z a7 c7 nl)) hall 14 74 rfl
            have m75 := finO (V := (VEa11 b n t N B1 z a7 c7 nl)) hall 15 75 rfl
            obtain ⟨r75, q75⟩ : ∃ r, f.tmps.getD 75 undef = r := ⟨_, rfl⟩
            rw [q75] at m75
            have m7 := finO (V := (VEa11 b n t N B1 z a7 c7 nl)) hall 16 7 rfl
            obtain ⟨r7, q7⟩ : ∃ r, f.tmps.getD 7 undef = r := ⟨_, rfl⟩
            rw [q7] at m7
            obtain rfl := frame_eq hsame [(60, .slice a7 (t + 1) c7), (61, .int .i64 (t : Int)), (62, .int .i64 ((t + 1 : Nat) : Int)), (63, .int .u8 ((t + 1 : Nat) : Int)), (64, .pointer (some ⟨b, 0, none⟩)), (65, .pointer (some ⟨b, 0, none⟩)), (66, .pointer (some ⟨b, 1, none⟩)), (67, .int .u64 (n : Int)), (68, .int .i64 (t : Int)), (69, .int .i64 ((t + 1 : Nat) : Int)), (70, .int .u64 ((n / 2 ^ (t + 1) : Nat) : Int)), (71, .agg #[.int .u8 ((t + 1 : Nat) : Int), .int .u64 ((n / 2 ^ (t + 1) : Nat) : Int)]), (72, .agg (ocells (z))), (73, .agg (ncell (t + 1, n / 2 ^ (t + 1), z))), (74, .slice (some ⟨g74, 0, none⟩) 1 1), (75, r75), (7, r7)] (by kernel_rfl) ⟨q60, q61, q62, q63, q64, q65, q66, q67, q68, q69, q70, q71, q72, q73, q74, q75, q7, trivial⟩
            clear hall hsame q60 q61 q62 q63 q64 q65 q66 q67 q68 q69 q70 q71 q72 q73 q74 q75 q7
            simp only [List.foldl, List.setIfInBounds_toArray, List.set_cons_succ, List.set_cons_zero]
            have kr := hsn.keepRow
            have b3 : Below N W u := BW.out.trans (kr.below (Nat.le_trans NW.out BW.out.size) (fun k hk => by have := ownsRow_fresh HO.out k hk; have := NB1.out; omega))
            have z3 := (kr.block N (Array.getElem?_eq_some_iff.1 ZN.out).1 NK.out).trans ZN.out
            have B3 := Bx.mk b3; have Z3 := Bx.mk z3; have M7 := Bx.mk m7.1
            clear kr b3 z3 m7 m75 hsn
            have htk : t < k := TK.out
            go_wp2_with fail
            go_roundw
            case rel => exact ⟨t + 1, TK.out, by go_num, by rw [← HNP.out]; exact M7.out, by rw [HST.out]; exact Z3.out, B3.out⟩
            case measure => first | (simp only [intOf]; omega) | (show k - ((t : Int) + 1).toNat < k - (t : Int).toNat; omega)
      · obtain rfl : k = t := by omega
        clear hlt ht
        obtain ⟨L, hL⟩ : ∃ L, L = ls.length := ⟨_, rfl⟩
        have L64 := Bx.mk (show L ≤ 64 by rw [hL, HLEN.out]; exact pcnt_le n); have KL := Bx.mk (show k ≤ L by omega); have LL := Bx.mk hL
        have LC := Bx.mk (show L ≤ c by omega); have LC2 := Bx.mk hc2
        by_cases hk0 : 0 < k
        · have KP := Bx.mk hk0
          have HNE := Bx.mk (show ¬ c = L - k by omega)
          obtain ⟨g, c', e⟩ : ∃ g c', Value.slice a ls.length c = .slice (some ⟨g, 0, none⟩) ls.length c' := by
            rcases HFM.out with ⟨_, h0⟩ | h1
            · omega
            · exact h1
          cases e
          clear hk0 hL
          go_upto_region 13 with (fail)
          refine wp_region_own4 (n := 116) VEa13mk (fun _ => none) (VEa13 b g c L k) (by kernel_rfl) (by kernel_rfl) rfl (fun _ _ => rfl) (fun j i hj _ => by cases hj) ?_ ?_ ?_
          · exact fun oi oj v own w own' w' hij _ h r => VEa13_mono b g c L k oi oj v own w own' w' hij h r
          · intro oi o hi f u own hsame hsn hfr hlate hkeep hdep
            have hb6 := hsn.below (B := wr.heap.size) (fun _ _ => rfl) (Nat.le_refl _)
            have hbN : Below N W u := BW.out.trans (hb6.mono (Nat.le_trans NW.out BW.out.size))
            match oi, hi with
            | 0, hi =>
              cases (show some _ = some o from hi)
              have e0 : f.tmps.getD 0 undef = .pointer (some ⟨b, 0, none⟩) := hsame.slot 0 (fun i o h => invB2_not 0 (by kernel_rfl) h)
              clear hdep hsame hi hlate hfr hkeep
              exact .inl ⟨wanted_none rfl, showsO_move hsn rfl _ rfl e0⟩
            | 1, hi =>
              cases (show some _ = some o from hi)
              have e77 : (f.tmps.getD 77 undef) = .pointer (some ⟨b, 0, none⟩) := depO (V := (VEa13 b g c L k)) hdep 0 77 (by kernel_rfl) (by kernel_rfl)
              clear hdep hsame hi hlate hfr hkeep
              exact .inl ⟨wanted_none rfl, showsO_pure hsn rfl (.pointer (some ⟨b, 0, none⟩)) (by simp only [execOp, Act.eval]; go_simp) rfl⟩
            | 2, hi =>
              cases (show some _ = some o from hi)
              have e78 : (f.tmps.getD 78 undef) = .pointer (some ⟨b, 0, none⟩) := depO (V := (VEa13 b g c L k)) hdep 1 78 (by kernel_rfl) (by kernel_rfl)
              clear hdep hsame hi hlate hfr hkeep
              exact .inl ⟨wanted_none rfl, showsO_pure hsn rfl (.pointer (some ⟨b, 2, none⟩)) (by simp only [execOp, Act.eval]; go_simp) rfl⟩
            | 3, hi =>
              cases (show some _ = some o from hi)
              have e79 : (f.tmps.getD 79 undef) = .pointer (some ⟨b, 2, none⟩) := depO (V := (VEa13 b g c L k)) hdep 2 79 (by kernel_rfl) (by kernel_rfl)
              clear hdep hsame hi hlate hfr hkeep
              have c2 := er_cellAt (XB.out u hbN) 2 _ rfl
              rw [← LL.out] at c2
              exact .inl ⟨wanted_none rfl, showsO_pure hsn rfl (.slice (some ⟨g, 0, none⟩) L c) (by simp only [execOp, Act.eval]; go_simp) rfl⟩
            | 4, hi =>
              cases (show some _ = some o from hi)
              have e0 : f.tmps.getD 0 undef = .pointer (some ⟨b, 0, none⟩) := hsame.slot 0 (fun i o h => invB2_not 0 (by kernel_rfl) h)
              clear hdep hsame hi hlate hfr hkeep
              exact .inl ⟨wanted_none rfl, showsO_move hsn rfl _ rfl e0⟩
            | 5, hi =>
              cases (show some _ = some o from hi)
              have e81 : (f.tmps.getD 81 undef) = .pointer (some ⟨b, 0, none⟩) := depO (V := (VEa13 b g c L k)) hdep 4 81 (by kernel_rfl) (by kernel_rfl)
              clear hdep hsame hi hlate hfr hkeep
              exact .inl ⟨wanted_none rfl, showsO_pure hsn rfl (.pointer (some ⟨b, 0, none⟩)) (by simp only [execOp, Act.eval]; go_simp) rfl⟩
            | 6, hi =>
              cases (show some _ = some o from hi)
              have e82 : (f.tmps.getD 82 undef) = .pointer (some ⟨b, 0, none⟩) := depO (V := (VEa13 b g c L k)) hdep 5 82 (by kernel_rfl) (by kernel_rfl)
              clear hdep hsame hi hlate hfr hkeep
              exact .inl ⟨wanted_none rfl, showsO_pure hsn rfl (.pointer (some ⟨b, 2, none⟩)) (by simp only [execOp, Act.eval]; go_simp) rfl⟩
            | 7, hi =>
              cases (show some _ = some o from hi)
              have e83 : (f.tmps.getD 83 undef) = .pointer (some ⟨b, 2, none⟩) := depO (V := (VEa13 b g c L k)) hdep 6 83 (by kernel_rfl) (by kernel_rfl)
              clear hdep hsame hi hlate hfr hkeep
              have c2 := er_cellAt (XB.out u hbN) 2 _ rfl
              rw [← LL.out] at c2
              exact .inl ⟨wanted_none rfl, showsO_pure hsn rfl (.slice (some ⟨g, 0, none⟩) L c) (by simp only [execOp, Act.eval]; go_simp) rfl⟩
            | 8, hi =>
              cases (show some _ = some o from hi)
              have e84 : (f.tmps.getD 84 undef) = .slice (some ⟨g, 0, none⟩) L c := depO (V := (VEa13 b g c L k)) hdep 7 84 (by kernel_rfl) (by kernel_rfl)
              clear hdep hsame hi hlate hfr hkeep
              exact .inl ⟨wanted_none rfl, showsO_pure hsn rfl (.int .i64 (L : Int)) (by simp only [execOp, Act.eval]; go_simp) rfl⟩
            | 9, hi =>
              cases (show some _ = some o from hi)
              have e6 : f.tmps.getD 6 undef = .int .i64 (k : Int) := hsame.slot 6 (fun i o h => invB2_not 6 (by kernel_rfl) h)
              clear hdep hsame hi hlate hfr hkeep
              exact .inl ⟨wanted_none rfl, showsO_move hsn rfl _ rfl e6⟩
            | 10, hi =>
              cases (show some _ = some o from hi)
              have e85 : (f.tmps.getD 85 undef) = .int .i64 (L : Int) := depO (V := (VEa13 b g c L k)) hdep 8 85 (by kernel_rfl) (by kernel_rfl)
              have e86 : (f.tmps.getD 86 undef) = .int .i64 (k : Int) := depO (V := (VEa13 b g c L k)) hdep 9 86 (by kernel_rfl) (by kernel_rfl)
              clear hdep hsame hi hlate hfr hkeep
              have hl := KL.out
              have hm := L64.out
              exact .inl ⟨wanted_none rfl, showsO_pure hsn rfl (.int .i64 ((L - k : Nat) : Int)) (by simp only [execOp, Act.eval]; go_simp; simp [IntKind.wrap, IntKind.bits, IntKind.signed]; omega) rfl⟩
            | 11, hi =>
              cases (show some _ = some o from hi)
              have e80 : (f.tmps.getD 80 undef) = .slice (some ⟨g, 0, none⟩) L c := depO (V := (VEa13 b g c L k)) hdep 3 80 (by kernel_rfl) (by kernel_rfl)
              have e87 : (f.tmps.getD 87 undef) = .int .i64 ((L - k : Nat) : Int) := depO (V := (VEa13 b g c L k)) hdep 10 87 (by kernel_rfl) (by kernel_rfl)
              clear hdep hsame hi hlate hfr hkeep
              have hl := KL.out
              have hm := L64.out
              have hc := LC.out
              have hc2 := LC2.out
              have hne := HNE.out
              have hle : L - k ≤ L := by omega
              have hle2 : L - (L - k) = k := by omega
              have hle3 : L - k ≤ c := by omega
              exact .inl ⟨wanted_none rfl, showsO_pure hsn rfl (.slice (some ⟨g, (L - k) * 32, none⟩) k (c - (L - k))) (by simp only [execOp, Act.eval]; go_simp) rfl⟩
            | 12, hi =>
              cases (show some _ = some o from hi)
              have e88 : (f.tmps.getD 88 undef) = .slice (some ⟨g, (L - k) * 32, none⟩) k (c - (L - k)) := depO (V := (VEa13 b g c L k)) hdep 11 88 (by kernel_rfl) (by kernel_rfl)
              clear hdep hsame hi hlate hfr hkeep
              exact .inl ⟨wanted_none rfl, showsO_assign hsn rfl _ rfl e88⟩
            | n + 13, hi => exact absurd hi (by simp)
          · intro f u own hsame hsn hall
            have q77 : f.tmps.getD 77 undef = .pointer (some ⟨b, 0, none⟩) := finO (V := (VEa13 b g c L k)) hall 0 77 rfl
            have q78 : f.tmps.getD 78 undef = .pointer (some ⟨b, 0, none⟩) := finO (V := (VEa13 b g c L k)) hall 1 78 rfl
            have q79 : f.tmps.getD 79 undef = .pointer (some ⟨b, 2, none⟩) := finO (V := (VEa13 b g c L k)) hall 2 79 rfl
            have q80 : f.tmps.getD 80 undef = .slice (some ⟨g, 0, none⟩) L c := finO (V := (VEa13 b g c L k)) hall 3 80 rfl
            have q81 : f.tmps.getD 81 undef = .pointer (some ⟨b, 0, none⟩) := finO (V := (VEa13 b g c L k)) hall 4 81 rfl
            have q82 : f.tmps.getD 82 undef = .pointer (some ⟨b, 0, none⟩) := finO (V := (VEa13 b g c L k)) hall 5 82 rfl
            have q83 : f.tmps.getD 83 undef = .pointer (some ⟨b, 2, none⟩) := finO (V := (VEa13 b g c L k)) hall 6 83 rfl
            have q84 : f.tmps.getD 84 undef = .slice (some ⟨g, 0, none⟩) L c := finO (V := (VEa13 b g c L k)) hall 7 84 rfl
            have q85 : f.tmps.getD 85 undef = .int .i64 (L : Int) := finO (V := (VEa13 b g c L k)) hall 8 85 rfl
            have q86 : f.tmps.getD 86 undef = .int .i64 (k : Int) := finO (V := (VEa13 b g c L k)) hall 9 86 rfl
            have q87 : f.tmps.getD 87 undef = .int .i64 ((L - k : Nat) : Int) := finO (V := (VEa13 b g c L k)) hall 10 87 rfl
            have q88 : f.tmps.getD 88 undef = .slice (some ⟨g, (L - k) * 32, none⟩) k (c - (L - k)) := finO (V := (VEa13 b g c L k)) hall 11 88 rfl
            have q9 : f.tmps.getD 9 undef = .slice (some ⟨g, (L - k) * 32, none⟩) k (c - (L - k)) := finO (V := (VEa13 b g c L k)) hall 12 9 rfl
            obtain rfl := frame_eq hsame [(77, .pointer (some ⟨b, 0, none⟩)), (78, .pointer (some ⟨b, 0, none⟩)), (79, .pointer (some ⟨b, 2, none⟩)), (80, .slice (some ⟨g, 0, none⟩) L c), (81, .pointer (some ⟨b, 0, none⟩)), (82, .pointer (some ⟨b, 0, none⟩)), (83, .pointer (some ⟨b, 2, none⟩)), (84, .slice (some ⟨g, 0, none⟩) L c), (85, .int .i64 (L : Int)), (86, .int .i64 (k : Int)), (87, .int .i64 ((L - k : Nat) : Int)), (88, .slice (some ⟨g, (L - k) * 32, none⟩) k (c - (L - k))), (9, .slice (some ⟨g, (L - k) * 32, none⟩) k (c - (L - k)))] (by kernel_rfl) ⟨q77, q78, q79, q80, q81, q82, q83, q84, q85, q86, q87, q88, q9, trivial⟩
            clear hall hsame q77 q78 q79 q80 q81 q82 q83 q84 q85 q86 q87 q88 q9
            simp only [List.foldl, List.setIfInBounds_toArray, List.set_cons_succ, List.set_cons_zero]
            have b6 := hsn.below (B := wr.heap.size) (fun _ _ => rfl) (Nat.le_refl _)
            have bN : Below N W u := BW.out.trans (b6.mono (Nat.le_trans NW.out BW.out.size))
            have bW : Below w.heap.size w u := by rw [← HN.out]; exact KB.out.trans bN
            have hBu := HB.out.below bW
            have hou := hBu.own
            rw [← LL.out] at hou
            obtain ⟨x1, x2, x3⟩ := own_cleared hou k KL.out (List.replicate (k * 32) (.int .u8 0))
            have hcl : ∀ ty, (Builtin.clear_ #[51] ty #[.slice (some ⟨g, (L - k) * 32, none⟩) k (c - (L - k))]).run Tryz.prog u = .ok (.tuple #[]) (u.setCells g ((L - k) * 32) (List.replicate (k * 32) (.int .u8 0))) :=
              fun ty => clear_rows u ty g ((L - k) * 32) k _ KP.out x1 x2
            have kc := keep_setCellsE u g ((L - k) * 32) (List.replicate (k * 32) (.int .u8 0))
            have gN : g < N := by rw [HN.out]; exact HB.out.lt g (.inr rfl)
            have gb : g ≠ b := HB.out.ne g rfl
            have y1 := (kc.block b (hBu.lt b (.inl rfl)) (fun e => gb e.symm)).trans hBu.hb
            have yN0 := (b6.block N (Array.getElem?_eq_some_iff.1 YN.out).1).trans YN.out
            have yN := (kc.block N (Array.getElem?_eq_some_iff.1 yN0).1 (fun e => by omega)).trans yN0
            have nx := own_keep (ownsRow_keep' HO.out fun j hj => b6.block j (ownsRow_lt HO.out j hj)) kc (fun j hj e => by have := ownsRow_fresh HO.out j hj; have := NB1.out; omega)
            have kx : Keep (BuS b (.slice (some ⟨g, 0, none⟩) ls.length c)) w (u.setCells g ((L - k) * 32) (List.replicate (k * 32) (.int .u8 0))) := (Keep.of_below bW (BuS b (.slice (some ⟨g, 0, none⟩) ls.length c))).trans (kc.mono (S' := BuS b (.slice (some ⟨g, 0, none⟩) ls.length c)) (fun j _ e => .inr (by rw [e]; rfl))) (fun _ _ h => h)
            rw [← LL.out] at y1
            rw [hcells_take HB.out.h32 (L - k) (by have := LL.out; omega)] at x3
            clear x1 x2 hou hBu bW b6 kc gb gN yN0 hsn
            go_upto_region 15 with (simp only [hcl])
            clear hcl bN
            generalize u.setCells g ((L - k) * 32) (List.replicate (k * 32) (.int .u8 0)) = X at x3 y1 yN nx kx ⊢
            have XBX := Bx.mk y1; have YX0 := Bx.mk yN; have OX0 := Bx.mk x3; have NX := Bx.mk nx; have KX := Bx.mk kx
            clear y1 yN x3 nx kx
            obtain ⟨z, hz⟩ : ∃ z, z = hkB ls p k := ⟨_, rfl⟩
            have YX := Bx.mk (show X.heap[N]? = some (.cells (ocells z) 66 (0, 0)) by rw [hz]; exact YX0.out)
            have ZL := Bx.mk (show z.length = 32 by rw [hz]; exact hkB_length HL.out k); have HZ := Bx.mk hz
            obtain ⟨l2, hl2⟩ : ∃ l2, l2 = ls.take (L - k) := ⟨_, rfl⟩
            have OX := Bx.mk (show X.ownsRow base 66 32 (.slice (some ⟨g, 0, none⟩) (L - k) c) (L - k) (hcells l2) by rw [hl2]; exact OX0.out); have HL2 := Bx.mk hl2
            have RNB := Bx.mk (fun j (hj : (Value.slice (some ⟨g, 0, none⟩) (L - k) c).ownBlock = some j) => HB.out.ne j hj)
            have RLT := Bx.mk (fun j (hj : (Value.slice (some ⟨g, 0, none⟩) (L - k) c).ownBlock = some j) => (show j < N by rw [HN.out]; exact HB.out.lt j (.inr hj)))
            have XBL := Bx.mk (Array.getElem?_eq_some_iff.1 XBX.out).1; have NXL := Bx.mk (Array.getElem?_eq_some_iff.1 YX.out).1
            have NON := Bx.mk (ownBR_none (i := 18) (j := 15) (fun e => Nat.lt_irrefl _ (RLT.out N e)) (Nat.ne_of_gt BL.out))
            have HTP := Bx.mk (fun k' (hk' : X.heap.size ≤ k') => ownBR_none (b := b) (v := .slice (some ⟨g, 0, none⟩) (L - k) c) (i := 18) (j := 15) (k := k') (fun e => by have := RLT.out _ e; have := NXL.out; omega) (by have := XBL.out; omega))
            obtain ⟨j0, hj0, hy0, hy1, hy2⟩ := info_parts infoH
            have RJ := Bx.mk (And.intro hj0 (And.intro hy0 (And.intro hy1 hy2)))
            have Q1 := Bx.mk (show L - k + 1 ≤ maxLen by have := L64.out; unfold maxLen; omega); have Q2 := Bx.mk (show (L - k + 1) * 32 ≤ 140737488355328 by have := L64.out; omega)
            have QB := Bx.mk (show base ≤ X.heap.size from Nat.le_trans HBS.out (by have := NXL.out; have := HN.out; omega))
            clear hz hl2 hj0 hy0 hy1 hy2
            refine wp_region_own8 (n := 116) VEa15mk (ownBR b (.slice (some ⟨g, 0, none⟩) (L - k) c) 18 15) (VEa15 (some ⟨g, 0, none⟩) b n L k c N base (X.heap.size) z l2) (by kernel_rfl) (by kernel_rfl) rfl (fun k hk => HTP.out k hk) (fun j i hj _ => by cases hj) ?_ ?_ ?_
            · exact fun oi oj v own w own' w' hij hnd h r => VEa15_mono (some ⟨g, 0, none⟩) b n L k c N base (X.heap.size) z l2 oi oj v own w own' w' hij (by rintro rfl rfl; exact Bool.noConfusion (hnd.symm.trans (show depB _ 18 15 = true by kernel_rfl))) h r
            · intro oi o hi f u own hsame hsn hfr hlate hkeep8 hdep
              have hkeep := hkeep8 _ (.inl rfl)
              match oi, hi with
              | 0, hi =>
                cases (show some _ = some o from hi)
                have e0 : f.tmps.getD 0 undef = .pointer (some ⟨b, 0, none⟩) := hsame.slot 0 (fun i o h => invB2_not 0 (by kernel_rfl) h)
                clear hdep hsame hi hlate hfr hkeep
                exact .inl ⟨wanted_none rfl, showsO_move hsn rfl _ rfl e0⟩
              | 1, hi =>
                cases (show some _ = some o from hi)
                have e0 : f.tmps.getD 0 undef = .pointer (some ⟨b, 0, none⟩) := hsame.slot 0 (fun i o h => invB2_not 0 (by kernel_rfl) h)
                clear hdep hsame hi hlate hfr hkeep
                exact .inl ⟨wanted_none rfl, showsO_move hsn rfl _ rfl e0⟩
              | 2, hi =>
                cases (show some _ = some o from hi)
                have e91 : (f.tmps.getD 91 undef) = .pointer (some ⟨b, 0, none⟩) := depO (V := (VEa15 (some ⟨g, 0, none⟩) b n L k c N base (X.heap.size) z l2)) hdep 1 91 (by kernel_rfl) (by kernel_rfl)
                clear hdep hsame hi hlate hfr hkeep
                exact .inl ⟨wanted_none rfl, showsO_pure hsn rfl (.pointer (some ⟨b, 0, none⟩)) (by simp only [execOp, Act.eval]; go_simp) rfl⟩
              | 3, hi =>
                cases (show some _ = some o from hi)
                have e92 : (f.tmps.getD 92 undef) = .pointer (some ⟨b, 0, none⟩) := depO (V := (VEa15 (some ⟨g, 0, none⟩) b n L k c N base (X.heap.size) z l2)) hdep 2 92 (by kernel_rfl) (by kernel_rfl)
                clear hdep hsame hi hlate hfr hkeep
                exact .inl ⟨wanted_none rfl, showsO_pure hsn rfl (.pointer (some ⟨b, 2, none⟩)) (by simp only [execOp, Act.eval]; go_simp) rfl⟩
              | 4, hi =>
                cases (show some _ = some o from hi)
                have e93 : (f.tmps.getD 93 undef) = .pointer (some ⟨b, 2, none⟩) := depO (V := (VEa15 (some ⟨g, 0, none⟩) b n L k c N base (X.heap.size) z l2)) hdep 3 93 (by kernel_rfl) (by kernel_rfl)
                clear hdep hsame hi hlate hfr hkeep
                have c2 := er_cellAt ((hkeep8 18 (.inr (by kernel_rfl)) b XBL.out (ownBR_one _ _ _ _)).trans XBX.out) 2 _ rfl
                exact .inl ⟨wanted_none rfl, showsO_pure hsn rfl (.slice (some ⟨g, 0, none⟩) L c) (by simp only [execOp, Act.eval]; go_simp) rfl⟩
              | 5, hi =>
                cases (show some _ = some o from hi)
                have e0 : f.tmps.getD 0 undef = .pointer (some ⟨b, 0, none⟩) := hsame.slot 0 (fun i o h => invB2_not 0 (by kernel_rfl) h)
                clear hdep hsame hi hlate hfr hkeep
                exact .inl ⟨wanted_none rfl, showsO_move hsn rfl _ rfl e0⟩
              | 6, hi =>
                cases (show some _ = some o from hi)
                have e95 : (f.tmps.getD 95 undef) = .pointer (some ⟨b, 0, none⟩) := depO (V := (VEa15 (some ⟨g, 0, none⟩) b n L k c N base (X.heap.size) z l2)) hdep 5 95 (by kernel_rfl) (by kernel_rfl)
                clear hdep hsame hi hlate hfr hkeep
                exact .inl ⟨wanted_none rfl, showsO_pure hsn rfl (.pointer (some ⟨b, 0, none⟩)) (by simp only [execOp, Act.eval]; go_simp) rfl⟩
              | 7, hi =>
                cases (show some _ = some o from hi)
                have e96 : (f.tmps.getD 96 undef) = .pointer (some ⟨b, 0, none⟩) := depO (V := (VEa15 (some ⟨g, 0, none⟩) b n L k c N base (X.heap.size) z l2)) hdep 6 96 (by kernel_rfl) (by kernel_rfl)
                clear hdep hsame hi hlate hfr hkeep
                exact .inl ⟨wanted_none rfl, showsO_pure hsn rfl (.pointer (some ⟨b, 2, none⟩)) (by simp only [execOp, Act.eval]; go_simp) rfl⟩
              | 8, hi =>
                cases (show some _ = some o from hi)
                have e97 : (f.tmps.getD 97 undef) = .pointer (some ⟨b, 2, none⟩) := depO (V := (VEa15 (some ⟨g, 0, none⟩) b n L k c N base (X.heap.size) z l2)) hdep 7 97 (by kernel_rfl) (by kernel_rfl)
                clear hdep hsame hi hlate hfr hkeep
                have c2 := er_cellAt ((hkeep8 18 (.inr (by kernel_rfl)) b XBL.out (ownBR_one _ _ _ _)).trans XBX.out) 2 _ rfl
                exact .inl ⟨wanted_none rfl, showsO_pure hsn rfl (.slice (some ⟨g, 0, none⟩) L c) (by simp only [execOp, Act.eval]; go_simp) rfl⟩
              | 9, hi =>
                cases (show some _ = some o from hi)
                have e98 : (f.tmps.getD 98 undef) = .slice (some ⟨g, 0, none⟩) L c := depO (V := (VEa15 (some ⟨g, 0, none⟩) b n L k c N base (X.heap.size) z l2)) hdep 8 98 (by kernel_rfl) (by kernel_rfl)
                clear hdep hsame hi hlate hfr hkeep
                exact .inl ⟨wanted_none rfl, showsO_pure hsn rfl (.int .i64 (L : Int)) (by simp only [execOp, Act.eval]; go_simp) rfl⟩
              | 10, hi =>
                cases (show some _ = some o from hi)
                have e6 : f.tmps.getD 6 undef = .int .i64 (k : Int) := hsame.slot 6 (fun i o h => invB2_not 6 (by kernel_rfl) h)
                clear hdep hsame hi hlate hfr hkeep
                exact .inl ⟨wanted_none rfl, showsO_move hsn rfl _ rfl e6⟩
              | 11, hi =>
                cases (show some _ = some o from hi)
                have e99 : (f.tmps.getD 99 undef) = .int .i64 (L : Int) := depO (V := (VEa15 (some ⟨g, 0, none⟩) b n L k c N base (X.heap.size) z l2)) hdep 9 99 (by kernel_rfl) (by kernel_rfl)
                have e100 : (f.tmps.getD 100 undef) = .int .i64 (k : Int) := depO (V := (VEa15 (some ⟨g, 0, none⟩) b n L k c N base (X.heap.size) z l2)) hdep 10 100 (by kernel_rfl) (by kernel_rfl)
                clear hdep hsame hi hlate hfr hkeep
                have hl := KL.out
                have hm := L64.out
                exact .inl ⟨wanted_none rfl, showsO_pure hsn rfl (.int .i64 ((L - k : Nat) : Int)) (by simp only [execOp, Act.eval]; go_simp; simp [IntKind.wrap, IntKind.bits, IntKind.signed]; omega) rfl⟩
              | 12, hi =>
                cases (show some _ = some o from hi)
                have e94 : (f.tmps.getD 94 undef) = .slice (some ⟨g, 0, none⟩) L c := depO (V := (VEa15 (some ⟨g, 0, none⟩) b n L k c N base (X.heap.size) z l2)) hdep 4 94 (by kernel_rfl) (by kernel_rfl)
                have e101 : (f.tmps.getD 101 undef) = .int .i64 ((L - k : Nat) : Int) := depO (V := (VEa15 (some ⟨g, 0, none⟩) b n L k c N base (X.heap.size) z l2)) hdep 11 101 (by kernel_rfl) (by kernel_rfl)
                clear hdep hsame hi hlate hfr hkeep
                have hl := KL.out
                have hm := L64.out
                have hc := LC.out
                have hc2 := LC2.out
                have hle3 : L - k ≤ c := by omega
                exact .inl ⟨wanted_none rfl, showsO_pure hsn rfl (.slice (some ⟨g, 0, none⟩) (L - k) c) (by simp only [execOp, Act.eval]; go_simp) rfl⟩
              | 13, hi =>
                cases (show some _ = some o from hi)
                have e3 : f.tmps.getD 3 undef = .pointer (some ⟨N, 0, none⟩) := hsame.slot 3 (fun i o h => invB2_not 3 (by kernel_rfl) h)
                clear hdep hsame hi hlate hfr hkeep
                exact .inl ⟨wanted_none rfl, showsO_row hsn rfl 66 (.tmp 3) rfl N e3 (ocells z) ((hsn.keep N NXL.out NON.out).trans YX.out) underH rfl (hszL ZL.out) rfl⟩
              | 14, hi =>
                cases (show some _ = some o from hi)
                have e103 : (f.tmps.getD 103 undef) = .agg (ocells (z)) := depO (V := (VEa15 (some ⟨g, 0, none⟩) b n L k c N base (X.heap.size) z l2)) hdep 13 103 (by kernel_rfl) (by kernel_rfl)
                clear hdep hsame hi hlate hfr hkeep
                exact .inl ⟨wanted_none rfl, showsO_built hsn rfl 1 66 (ocells z) (run_bs_one u (.tmp 103) rfl z ZL.out e103) (fun h => h)⟩
              | 15, hi =>
                cases (show some _ = some o from hi)
                have e102 : (f.tmps.getD 102 undef) = .slice (some ⟨g, 0, none⟩) (L - k) c := depO (V := (VEa15 (some ⟨g, 0, none⟩) b n L k c N base (X.heap.size) z l2)) hdep 12 102 (by kernel_rfl) (by kernel_rfl)
                have e104 : BuiltV own u (f.tmps.getD 104 undef) 1 66 (ocells z) := depO (V := (VEa15 (some ⟨g, 0, none⟩) b n L k c N base (X.heap.size) z l2)) hdep 14 104 (by kernel_rfl) (by kernel_rfl)
                clear hdep hsame hi hlate hfr
                exact .inl ⟨wanted_none rfl, showsO_appendW hsn hkeep rfl (.tmp 102) (.tmp 104) 51 rfl base 66 j0 (.agg zeros32) 32 32 underHs RJ.out.1 RJ.out.2.1 RJ.out.2.2.1 RJ.out.2.2.2 rfl (by decide) (.slice (some ⟨g, 0, none⟩) (L - k) c) (L - k) (hcells l2) e102 OX.out (fun j hj => ownBR_two hj (RNB.out j hj)) e104 (by rw [ocells_size, ZL.out]) (ocells_one _) Q1.out Q2.out QB.out (fun _ _ _ h => h)⟩
              | 16, hi =>
                cases (show some _ = some o from hi)
                have e90 : (f.tmps.getD 90 undef) = .pointer (some ⟨b, 0, none⟩) := depO (V := (VEa15 (some ⟨g, 0, none⟩) b n L k c N base (X.heap.size) z l2)) hdep 0 90 (by kernel_rfl) (by kernel_rfl)
                clear hdep hsame hi hlate hfr hkeep
                exact .inl ⟨wanted_none rfl, showsO_pure hsn rfl (.pointer (some ⟨b, 0, none⟩)) (by simp only [execOp, Act.eval]; go_simp) rfl⟩
              | 17, hi =>
                cases (show some _ = some o from hi)
                have e106 : (f.tmps.getD 106 undef) = .pointer (some ⟨b, 0, none⟩) := depO (V := (VEa15 (some ⟨g, 0, none⟩) b n L k c N base (X.heap.size) z l2)) hdep 16 106 (by kernel_rfl) (by kernel_rfl)
                clear hdep hsame hi hlate hfr hkeep
                exact .inl ⟨wanted_none rfl, showsO_pure hsn rfl (.pointer (some ⟨b, 2, none⟩)) (by simp only [execOp, Act.eval]; go_simp) rfl⟩
              | 18, hi =>
                cases (show some _ = some o from hi)
                have e105 : GrownW own u 15 base 66 32 (f.tmps.getD 105 undef) (L - k + 1) (hcells l2 ++ (ocells z).toList) (.slice (some ⟨g, 0, none⟩) (L - k) c) (X.heap.size) := depO (V := (VEa15 (some ⟨g, 0, none⟩) b n L k c N base (X.heap.size) z l2)) hdep 15 105 (by kernel_rfl) (by kernel_rfl)
                have e107 : (f.tmps.getD 107 undef) = .pointer (some ⟨b, 2, none⟩) := depO (V := (VEa15 (some ⟨g, 0, none⟩) b n L k c N base (X.heap.size) z l2)) hdep 17 107 (by kernel_rfl) (by kernel_rfl)
                clear hdep hsame hi hlate hfr hkeep
                have hst := er_cellAt ((hkeep8 18 (.inl rfl) b XBL.out (ownBR_one _ _ _ _)).trans XBX.out) 2 _ rfl
                have hfr2 : u.frozen? ⟨b, 2, none⟩ = false := by simp [World.frozen?, ((hkeep8 18 (.inl rfl) b XBL.out (ownBR_one _ _ _ _)).trans XBX.out)]
                obtain ⟨a1, c1, ev, _, _, _⟩ := own_shape e105.1.1
                rw [ev] at e105
                have hob : own b = some 18 := (hsn.owns b XBL.out).trans (ownBR_one _ _ _ _)
                have HQ : ∀ {v}, GrownW own u 15 base 66 32 v (L - k + 1) (hcells l2 ++ (ocells z).toList) (.slice (some ⟨g, 0, none⟩) (L - k) c) (X.heap.size) → GrownW own u 15 base 66 32 v (L - k + 1) (hcells l2 ++ (ocells z).toList) (.slice (some ⟨g, 0, none⟩) (L - k) c) (X.heap.size) := fun h => h
                exact .inl ⟨wanted_none rfl, showsO_store_cell hsn hkeep8 rfl b 2 #[.bool true, .int .u64 (n : Int), .slice (some ⟨g, 0, none⟩) L c] 60 XBX.out (ownBR_one _ _ _ _) (.slice a1 (L - k + 1) c1) (by simp only [execOp, Act.eval]; go_simp) (fun h => ⟨_, h, grownW_setCell (HQ e105) b 2 _ hob (by decide)⟩)⟩
              | n + 19, hi => exact absurd hi (by simp)
            · intro f u own hsame hsn hall
              have q90 : f.tmps.getD 90 undef = .pointer (some ⟨b, 0, none⟩) := finO (V := (VEa15 (some ⟨g, 0, none⟩) b n L k c N base (X.heap.size) z l2)) hall 0 90 rfl
              have q91 : f.tmps.getD 91 undef = .pointer (some ⟨b, 0, none⟩) := finO (V := (VEa15 (some ⟨g, 0, none⟩) b n L k c N base (X.heap.size) z l2)) hall 1 91 rfl
              have q92 : f.tmps.getD 92 undef = .pointer (some ⟨b, 0, none⟩) := finO (V := (VEa15 (some ⟨g, 0, none⟩) b n L k c N base (X.heap.size) z l2)) hall 2 92 rfl
              have q93 : f.tmps.getD 93 undef = .pointer (some ⟨b, 2, none⟩) := finO (V := (VEa15 (some ⟨g, 0, none⟩) b n L k c N base (X.heap.size) z l2)) hall 3 93 rfl
              have q94 : f.tmps.getD 94 undef = .slice (some ⟨g, 0, none⟩) L c := finO (V := (VEa15 (some ⟨g, 0, none⟩) b n L k c N base (X.heap.size) z l2)) hall 4 94 rfl
              have q95 : f.tmps.getD 95 undef = .pointer (some ⟨b, 0, none⟩) := finO (V := (VEa15 (some ⟨g, 0, none⟩) b n L k c N base (X.heap.size) z l2)) hall 5 95 rfl
              have q96 : f.tmps.getD 96 undef = .pointer (some ⟨b, 0, none⟩) := finO (V := (VEa15 (some ⟨g, 0, none⟩) b n L k c N base (X.heap.size) z l2)) hall 6 96 rfl
              have q97 : f.tmps.getD 97 undef = .pointer (some ⟨b, 2, none⟩) := finO (V := (VEa15 (some ⟨g, 0, none⟩) b n L k c N base (X.heap.size) z l2)) hall 7 97 rfl
              have q98 : f.tmps.getD 98 undef = .slice (some ⟨g, 0, none⟩) L c := finO (V := (VEa15 (some ⟨g, 0, none⟩) b n L k c N base (X.heap.size) z l2)) hall 8 98 rfl
              have q99 : f.tmps.getD 99 undef = .int .i64 (L : Int) := finO (V := (VEa15 (some ⟨g, 0, none⟩) b n L k c N base (X.heap.size) z l2)) hall 9 99 rfl
              have q100 : f.tmps.getD 100 undef = .int .i64 (k : Int) := finO (V := (VEa15 (some ⟨g, 0, none⟩) b n L k c N base (X.heap.size) z l2)) hall 10 100 rfl
              have q101 : f.tmps.getD 101 undef = .int .i64 ((L - k : Nat) : Int) := finO (V := (VEa15 (some ⟨g, 0, none⟩) b n L k c N base (X.heap.size) z l2)) hall 11 101 rfl
              have q102 : f.tmps.getD 102 undef = .slice (some ⟨g, 0, none⟩) (L - k) c := finO (V := (VEa15 (some ⟨g, 0, none⟩) b n L k c N base (X.heap.size) z l2)) hall 12 102 rfl
              have q103 : f.tmps.getD 103 undef = .agg (ocells (z)) := finO (V := (VEa15 (some ⟨g, 0, none⟩) b n L k c N base (X.heap.size) z l2)) hall 13 103 rfl
              obtain ⟨g104, q104, o104, m104⟩ : BuiltV own u (f.tmps.getD 104 undef) 1 66 (ocells z) := finO (V := (VEa15 (some ⟨g, 0, none⟩) b n L k c N base (X.heap.size) z l2)) hall 14 104 rfl
              have m105 := finO (V := (VEa15 (some ⟨g, 0, none⟩) b n L k c N base (X.heap.size) z l2)) hall 15 105 rfl
              obtain ⟨r105, q105⟩ : ∃ r, f.tmps.getD 105 undef = r := ⟨_, rfl⟩
              rw [q105] at m105
              have q106 : f.tmps.getD 106 undef = .pointer (some ⟨b, 0, none⟩) := finO (V := (VEa15 (some ⟨g, 0, none⟩) b n L k c N base (X.heap.size) z l2)) hall 16 106 rfl
              have q107 : f.tmps.getD 107 undef = .pointer (some ⟨b, 2, none⟩) := finO (V := (VEa15 (some ⟨g, 0, none⟩) b n L k c N base (X.heap.size) z l2)) hall 17 107 rfl
              obtain ⟨s1, ⟨ob, hbb⟩, ⟨gw, gf⟩, gz⟩ := finN (V := (VEa15 (some ⟨g, 0, none⟩) b n L k c N base (X.heap.size) z l2)) hall 18 rfl
              obtain rfl := frame_eq hsame [(90, .pointer (some ⟨b, 0, none⟩)), (91, .pointer (some ⟨b, 0, none⟩)), (92, .pointer (some ⟨b, 0, none⟩)), (93, .pointer (some ⟨b, 2, none⟩)), (94, .slice (some ⟨g, 0, none⟩) L c), (95, .pointer (some ⟨b, 0, none⟩)), (96, .pointer (some ⟨b, 0, none⟩)), (97, .pointer (some ⟨b, 2, none⟩)), (98, .slice (some ⟨g, 0, none⟩) L c), (99, .int .i64 (L : Int)), (100, .int .i64 (k : Int)), (101, .int .i64 ((L - k : Nat) : Int)), (102, .slice (some ⟨g, 0, none⟩) (L - k) c), (103, .agg (ocells (z))), (104, .slice (some ⟨g104, 0, none⟩) 1 1), (105, r105), (106, .pointer (some ⟨b, 0, none⟩)), (107, .pointer (some ⟨b, 2, none⟩))] (by kernel_rfl) ⟨q90, q91, q92, q93, q94, q95, q96, q97, q98, q99, q100, q101, q102, q103, q104, q105, q106, q107, trivial⟩
              clear hall hsame q90 q91 q92 q93 q94 q95 q96 q97 q98 q99 q100 q101 q102 q103 q104 q105 q106 q107
              simp only [List.foldl, List.setIfInBounds_toArray, List.set_cons_succ, List.set_cons_zero]
              have kbr := hsn.keepBR
              have nx2 := own_keep NX.out kbr (fun j hj e => by
                have h1 := ownsRow_fresh NX.out j hj
                have h2 := NB1.out
                rcases e with e | e
                · have := BL.out; omega
                · have := RLT.out j e; omega)
              have c1 := er_cellAt hbb 1 _ rfl
              have f1 := er_frozen hbb 1
              have SNE := Bx.mk (fun j (hj : s1.ownBlock = some j) => (show j ≠ b by
                rintro rfl
                rcases gf j hj with h1 | h1 <;> rw [ob] at h1 <;> cases h1))
              have HBB := Bx.mk hbb; have GW := Bx.mk gw; have GZ := Bx.mk gz; have KBR := Bx.mk kbr; have NX2 := Bx.mk nx2
              clear hbb gw gz kbr nx2 gf ob m105 hsn
              go_wp2_with fail
              go_ret2
              refine ⟨_, rfl, ?_, ?_, s1, ⟨?_, HB.out.bb, ?_, lsB_mem HL.out HB.out.h32⟩, fun j hj => ?_⟩
              · rw [← HK.out]
                exact ownsRow_mono (ownsRow_setCell_ne NX2.out ⟨b, 1, none⟩ _ (fun j hj e => by have h1 := ownsRow_fresh NX.out j hj; have h2 := NB1.out; have h3 := BL.out; have h4 : j = b := e; omega)) (by rw [← HN.out]; exact Nat.le_of_lt NB1.out)
              · refine (KX.out.trans (KBR.out.mono (S' := BuS b (.slice (some ⟨g, 0, none⟩) ls.length c)) (fun j _ h => h)) (fun _ _ h => h)).trans ((Keep.setCell u ⟨b, 1, none⟩ _).mono (S' := BuS b (.slice (some ⟨g, 0, none⟩) ls.length c)) (fun j _ h => .inl h)) (fun _ _ h => h)
              · simp [World.setCell, Array.getElem?_modify, HBB.out]
              · have e : lsB n ls p = l2 ++ [z] := by unfold lsB; rw [← HK.out, ← LL.out, ← HL2.out, ← HZ.out]
                have e2 : (l2 ++ [z]).length = L - k + 1 := by rw [List.length_append, HL2.out, List.length_take, ← LL.out]; have := KL.out; simp; try omega
                rw [e, e2, ← hcells_push]
                exact ownsRow_setCell_ne GW.out ⟨b, 1, none⟩ _ (fun j hj e => SNE.out j hj e)
              · rcases GZ.out j hj with h1 | h1
                · exact .inl h1
                · exact .inr (Nat.le_trans KX.out.size h1)
        · have K0 := Bx.mk (show k ≤ 0 by omega)
          rcases HFM.out with ⟨e, h0⟩ | ⟨g, c', e⟩
          · injection e with e1 e2 e3
            subst e1
            have HC0 := Bx.mk (show c ≤ 0 by omega)
            obtain ⟨g, hgg⟩ : ∃ g, g = 0 := ⟨_, rfl⟩
            clear hk0 hL e2 e3 h0 hgg
            go_upto_region 13 with (fail)
            refine wp_region_own4 (n := 116) VEa13nmk (fun _ => none) (VEa13n b g c L k) (by kernel_rfl) (by kernel_rfl) rfl (fun _ _ => rfl) (fun j i hj _ => by cases hj) ?_ ?_ ?_
            · exact fun oi oj v own w own' w' hij _ h r => VEa13n_mono b g c L k oi oj v own w own' w' hij h r
            · intro oi o hi f u own hsame hsn hfr hlate hkeep hdep
              have hb6 := hsn.below (B := wr.heap.size) (fun _ _ => rfl) (Nat.le_refl _)
              have hbN : Below N W u := BW.out.trans (hb6.mono (Nat.le_trans NW.out BW.out.size))
              match oi, hi with
              | 0, hi =>
                cases (show some _ = some o from hi)
                have e0 : f.tmps.getD 0 undef = .pointer (some ⟨b, 0, none⟩) := hsame.slot 0 (fun i o h => invB2_not 0 (by kernel_rfl) h)
                clear hdep hsame hi hlate hfr hkeep
                exact .inl ⟨wanted_none rfl, showsO_move hsn rfl _ rfl e0⟩
              | 1, hi =>
                cases (show some _ = some o from hi)
                have e77 : (f.tmps.getD 77 undef) = .pointer (some ⟨b, 0, none⟩) := depO (V := (VEa13n b g c L k)) hdep 0 77 (by kernel_rfl) (by kernel_rfl)
                clear hdep hsame hi hlate hfr hkeep
                exact .inl ⟨wanted_none rfl, showsO_pure hsn rfl (.pointer (some ⟨b, 0, none⟩)) (by simp only [execOp, Act.eval]; go_simp) rfl⟩
              | 2, hi =>
                cases (show some _ = some o from hi)
                have e78 : (f.tmps.getD 78 undef) = .pointer (some ⟨b, 0, none⟩) := depO (V := (VEa13n b g c L k)) hdep 1 78 (by kernel_rfl) (by kernel_rfl)
                clear hdep hsame hi hlate hfr hkeep
                exact .inl ⟨wanted_none rfl, showsO_pure hsn rfl (.pointer (some ⟨b, 2, none⟩)) (by simp only [execOp, Act.eval]; go_simp) rfl⟩
              | 3, hi =>
                cases (show some _ = some o from hi)
                have e79 : (f.tmps.getD 79 undef) = .pointer (some ⟨b, 2, none⟩) := depO (V := (VEa13n b g c L k)) hdep 2 79 (by kernel_rfl) (by kernel_rfl)
                clear hdep hsame hi hlate hfr hkeep
                have c2 := er_cellAt (XB.out u hbN) 2 _ rfl
                rw [← LL.out] at c2
                exact .inl ⟨wanted_none rfl, showsO_pure hsn rfl (.slice none L c) (by simp only [execOp, Act.eval]; go_simp) rfl⟩
              | 4, hi =>
                cases (show some _ = some o from hi)
                have e0 : f.tmps.getD 0 undef = .pointer (some ⟨b, 0, none⟩) := hsame.slot 0 (fun i o h => invB2_not 0 (by kernel_rfl) h)
                clear hdep hsame hi hlate hfr hkeep
                exact .inl ⟨wanted_none rfl, showsO_move hsn rfl _ rfl e0⟩
              | 5, hi =>
                cases (show some _ = some o from hi)
                have e81 : (f.tmps.getD 81 undef) = .pointer (some ⟨b, 0, none⟩) := depO (V := (VEa13n b g c L k)) hdep 4 81 (by kernel_rfl) (by kernel_rfl)
                clear hdep hsame hi hlate hfr hkeep
                exact .inl ⟨wanted_none rfl, showsO_pure hsn rfl (.pointer (some ⟨b, 0, none⟩)) (by simp only [execOp, Act.eval]; go_simp) rfl⟩
              | 6, hi =>
                cases (show some _ = some o from hi)
                have e82 : (f.tmps.getD 82 undef) = .pointer (some ⟨b, 0, none⟩) := depO (V := (VEa13n b g c L k)) hdep 5 82 (by kernel_rfl) (by kernel_rfl)
                clear hdep hsame hi hlate hfr hkeep
                exact .inl ⟨wanted_none rfl, showsO_pure hsn rfl (.pointer (some ⟨b, 2, none⟩)) (by simp only [execOp, Act.eval]; go_simp) rfl⟩
              | 7, hi =>
                cases (show some _ = some o from hi)
                have e83 : (f.tmps.getD 83 undef) = .pointer (some ⟨b, 2, none⟩) := depO (V := (VEa13n b g c L k)) hdep 6 83 (by kernel_rfl) (by kernel_rfl)
                clear hdep hsame hi hlate hfr hkeep
                have c2 := er_cellAt (XB.out u hbN) 2 _ rfl
                rw [← LL.out] at c2
                exact .inl ⟨wanted_none rfl, showsO_pure hsn rfl (.slice none L c) (by simp only [execOp, Act.eval]; go_simp) rfl⟩
              | 8, hi =>
                cases (show some _ = some o from hi)
                have e84 : (f.tmps.getD 84 undef) = .slice none L c := depO (V := (VEa13n b g c L k)) hdep 7 84 (by kernel_rfl) (by kernel_rfl)
                clear hdep hsame hi hlate hfr hkeep
                exact .inl ⟨wanted_none rfl, showsO_pure hsn rfl (.int .i64 (L : Int)) (by simp only [execOp, Act.eval]; go_simp) rfl⟩
              | 9, hi =>
                cases (show some _ = some o from hi)
                have e6 : f.tmps.getD 6 undef = .int .i64 (k : Int) := hsame.slot 6 (fun i o h => invB2_not 6 (by kernel_rfl) h)
                clear hdep hsame hi hlate hfr hkeep
                exact .inl ⟨wanted_none rfl, showsO_move hsn rfl _ rfl e6⟩
              | 10, hi =>
                cases (show some _ = some o from hi)
                have e85 : (f.tmps.getD 85 undef) = .int .i64 (L : Int) := depO (V := (VEa13n b g c L k)) hdep 8 85 (by kernel_rfl) (by kernel_rfl)
                have e86 : (f.tmps.getD 86 undef) = .int .i64 (k : Int) := depO (V := (VEa13n b g c L k)) hdep 9 86 (by kernel_rfl) (by kernel_rfl)
                clear hdep hsame hi hlate hfr hkeep
                have hl := KL.out
                have hm := L64.out
                exact .inl ⟨wanted_none rfl, showsO_pure hsn rfl (.int .i64 ((L - k : Nat) : Int)) (by simp only [execOp, Act.eval]; go_simp; simp [IntKind.wrap, IntKind.bits, IntKind.signed]; omega) rfl⟩
              | 11, hi =>
                cases (show some _ = some o from hi)
                have e80 : (f.tmps.getD 80 undef) = .slice none L c := depO (V := (VEa13n b g c L k)) hdep 3 80 (by kernel_rfl) (by kernel_rfl)
                have e87 : (f.tmps.getD 87 undef) = .int .i64 ((L - k : Nat) : Int) := depO (V := (VEa13n b g c L k)) hdep 10 87 (by kernel_rfl) (by kernel_rfl)
                clear hdep hsame hi hlate hfr hkeep
                have hl := KL.out
                have hm := L64.out
                have hc := LC.out
                have hc2 := LC2.out
                have hle : L - k ≤ L := by omega
                have hle2 : L - (L - k) = k := by omega
                have hle3 : L - k ≤ c := by omega
                have hc0 := HC0.out
                exact .inl ⟨wanted_none rfl, showsO_pure hsn rfl (.slice none k (c - (L - k))) (by simp only [execOp, Act.eval]; go_simp) rfl⟩
              | 12, hi =>
                cases (show some _ = some o from hi)
                have e88 : (f.tmps.getD 88 undef) = .slice none k (c - (L - k)) := depO (V := (VEa13n b g c L k)) hdep 11 88 (by kernel_rfl) (by kernel_rfl)
                clear hdep hsame hi hlate hfr hkeep
                exact .inl ⟨wanted_none rfl, showsO_assign hsn rfl _ rfl e88⟩
              | n + 13, hi => exact absurd hi (by simp)
            · intro f u own hsame hsn hall
              have q77 : f.tmps.getD 77 undef = .pointer (some ⟨b, 0, none⟩) := finO (V := (VEa13n b g c L k)) hall 0 77 rfl
              have q78 : f.tmps.getD 78 undef = .pointer (some ⟨b, 0, none⟩) := finO (V := (VEa13n b g c L k)) hall 1 78 rfl
              have q79 : f.tmps.getD 79 undef = .pointer (some ⟨b, 2, none⟩) := finO (V := (VEa13n b g c L k)) hall 2 79 rfl
              have q80 : f.tmps.getD 80 undef = .slice none L c := finO (V := (VEa13n b g c L k)) hall 3 80 rfl
              have q81 : f.tmps.getD 81 undef = .pointer (some ⟨b, 0, none⟩) := finO (V := (VEa13n b g c L k)) hall 4 81 rfl
              have q82 : f.tmps.getD 82 undef = .pointer (some ⟨b, 0, none⟩) := finO (V := (VEa13n b g c L k)) hall 5 82 rfl
              have q83 : f.tmps.getD 83 undef = .pointer (some ⟨b, 2, none⟩) := finO (V := (VEa13n b g c L k)) hall 6 83 rfl
              have q84 : f.tmps.getD 84 undef = .slice none L c := finO (V := (VEa13n b g c L k)) hall 7 84 rfl
              have q85 : f.tmps.getD 85 undef = .int .i64 (L : Int) := finO (V := (VEa13n b g c L k)) hall 8 85 rfl
              have q86 : f.tmps.getD 86 undef = .int .i64 (k : Int) := finO (V := (VEa13n b g c L k)) hall 9 86 rfl
              have q87 : f.tmps.getD 87 undef = .int .i64 ((L - k : Nat) : Int) := finO (V := (VEa13n b g c L k)) hall 10 87 rfl
              have q88 : f.tmps.getD 88 undef = .slice none k (c - (L - k)) := finO (V := (VEa13n b g c L k)) hall 11 88 rfl
              have q9 : f.tmps.getD 9 undef = .slice none k (c - (L - k)) := finO (V := (VEa13n b g c L k)) hall 12 9 rfl
              obtain rfl := frame_eq hsame [(77, .pointer (some ⟨b, 0, none⟩)), (78, .pointer (some ⟨b, 0, none⟩)), (79, .pointer (some ⟨b, 2, none⟩)), (80, .slice none L c), (81, .pointer (some ⟨b, 0, none⟩)), (82, .pointer (some ⟨b, 0, none⟩)), (83, .pointer (some ⟨b, 2, none⟩)), (84, .slice none L c), (85, .int .i64 (L : Int)), (86, .int .i64 (k : Int)), (87, .int .i64 ((L - k : Nat) : Int)), (88, .slice none k (c - (L - k))), (9, .slice none k (c - (L - k)))] (by kernel_rfl) ⟨q77, q78, q79, q80, q81, q82, q83, q84, q85, q86, q87, q88, q9, trivial⟩
              clear hall hsame q77 q78 q79 q80 q81 q82 q83 q84 q85 q86 q87 q88 q9
              simp only [List.foldl, List.setIfInBounds_toArray, List.set_cons_succ, List.set_cons_zero]
              have b6 := hsn.below (B := wr.heap.size) (fun _ _ => rfl) (Nat.le_refl _)
              have bN : Below N W u := BW.out.trans (b6.mono (Nat.le_trans NW.out BW.out.size))
              have bW : Below w.heap.size w u := by rw [← HN.out]; exact KB.out.trans bN
              have hBu := HB.out.below bW
              have hou := hBu.own
              have elk : L - k = ls.length := by have := K0.out; have := LL.out; omega
              have hcl : ∀ ty c9, (Builtin.clear_ #[51] ty #[.slice none k c9]).run Tryz.prog u = .ok (.tuple #[]) u := fun ty c9 => clear_none u ty _ k c9 K0.out
              have y1 := hBu.hb
              have yN := (b6.block N (Array.getElem?_eq_some_iff.1 YN.out).1).trans YN.out
              have nx := ownsRow_keep' HO.out fun j hj => b6.block j (ownsRow_lt HO.out j hj)
              have kx := Keep.of_below bW (BuS b (.slice none ls.length c))
              rw [← LL.out] at y1
              have x3 : u.ownsRow base 66 32 (.slice none (L - k) c) (L - k) (hcells (ls.take (L - k))) := by rw [elk, List.take_length]; exact hou
              clear hou hBu bW b6 hsn elk
              go_upto_region 15 with (simp only [hcl])
              clear hcl bN
              obtain ⟨X, hX⟩ : ∃ X, X = u := ⟨_, rfl⟩
              rw [← hX] at x3 y1 yN nx kx ⊢
              clear hX
              have XBX := Bx.mk y1; have YX0 := Bx.mk yN; have OX0 := Bx.mk x3; have NX := Bx.mk nx; have KX := Bx.mk kx
              clear y1 yN x3 nx kx
              obtain ⟨z, hz⟩ : ∃ z, z = hkB ls p k := ⟨_, rfl⟩
              have YX := Bx.mk (show X.heap[N]? = some (.cells (ocells z) 66 (0, 0)) by rw [hz]; exact YX0.out)
              have ZL := Bx.mk (show z.length = 32 by rw [hz]; exact hkB_length HL.out k); have HZ := Bx.mk hz
              obtain ⟨l2, hl2⟩ : ∃ l2, l2 = ls.take (L - k) := ⟨_, rfl⟩
              have OX := Bx.mk (show X.ownsRow base 66 32 (.slice none (L - k) c) (L - k) (hcells l2) by rw [hl2]; exact OX0.out); have HL2 := Bx.mk hl2
              have RNB := Bx.mk (fun j (hj : (Value.slice none (L - k) c).ownBlock = some j) => HB.out.ne j hj)
              have RLT := Bx.mk (fun j (hj : (Value.slice none (L - k) c).ownBlock = some j) => (show j < N by rw [HN.out]; exact HB.out.lt j (.inr hj)))
              have XBL := Bx.mk (Array.getElem?_eq_some_iff.1 XBX.out).1; have NXL := Bx.mk (Array.getElem?_eq_some_iff.1 YX.out).1
              have NON := Bx.mk (ownBR_none (i := 18) (j := 15) (fun e => Nat.lt_irrefl _ (RLT.out N e)) (Nat.ne_of_gt BL.out))
              have HTP := Bx.mk (fun k' (hk' : X.heap.size ≤ k') => ownBR_none (b := b) (v := .slice none (L - k) c) (i := 18) (j := 15) (k := k') (fun e => by have := RLT.out _ e; have := NXL.out; omega) (by have := XBL.out; omega))
              obtain ⟨j0, hj0, hy0, hy1, hy2⟩ := info_parts infoH
              have RJ := Bx.mk (And.intro hj0 (And.intro hy0 (And.intro hy1 hy2)))
              have Q1 := Bx.mk (show L - k + 1 ≤ maxLen by have := L64.out; unfold maxLen; omega); have Q2 := Bx.mk (show (L - k + 1) * 32 ≤ 140737488355328 by have := L64.out; omega)
              have QB := Bx.mk (show base ≤ X.heap.size from Nat.le_trans HBS.out (by have := NXL.out; have := HN.out; omega))
              clear hz hl2 hj0 hy0 hy1 hy2
              refine wp_region_own8 (n := 116) VEa15mk (ownBR b (.slice none (L - k) c) 18 15) (VEa15 none b n L k c N base (X.heap.size) z l2) (by kernel_rfl) (by kernel_rfl) rfl (fun k hk => HTP.out k hk) (fun j i hj _ => by cases hj) ?_ ?_ ?_
              · exact fun oi oj v own w own' w' hij hnd h r => VEa15_mono none b n L k c N base (X.heap.size) z l2 oi oj v own w own' w' hij (by rintro rfl rfl; exact Bool.noConfusion (hnd.symm.trans (show depB _ 18 15 = true by kernel_rfl))) h r
              · intro oi o hi f u own hsame hsn hfr hlate hkeep8 hdep
                have hkeep := hkeep8 _ (.inl rfl)
                match oi, hi with
                | 0, hi =>
                  cases (show some _ = some o from hi)
                  have e0 : f.tmps.getD 0 undef = .pointer (some ⟨b, 0, none⟩) := hsame.slot 0 (fun i o h => invB2_not 0 (by kernel_rfl) h)
                  clear hdep hsame hi hlate hfr hkeep
                  exact .inl ⟨wanted_none rfl, showsO_move hsn rfl _ rfl e0⟩
                | 1, hi =>
                  cases (show some _ = some o from hi)
                  have e0 : f.tmps.getD 0 undef = .pointer (some ⟨b, 0, none⟩) := hsame.slot 0 (fun i o h => invB2_not 0 (by kernel_rfl) h)
                  clear hdep hsame hi hlate hfr hkeep
                  exact .inl ⟨wanted_none rfl, showsO_move hsn rfl _ rfl e0⟩
                | 2, hi =>
                  cases (show some _ = some o from hi)
                  have e91 : (f.tmps.getD 91 undef) = .pointer (some ⟨b, 0, none⟩) := depO (V := (VEa15 none b n L k c N base (X.heap.size) z l2)) hdep 1 91 (by kernel_rfl) (by kernel_rfl)
                  clear hdep hsame hi hlate hfr hkeep
                  exact .inl ⟨wanted_none rfl, showsO_pure hsn rfl (.pointer (some ⟨b, 0, none⟩)) (by simp only [execOp, Act.eval]; go_simp) rfl⟩
                | 3, hi =>
                  cases (show some _ = some o from hi)
                  have e92 : (f.tmps.getD 92 undef) = .pointer (some ⟨b, 0, none⟩) := depO (V := (VEa15 none b n L k c N base (X.heap.size) z l2)) hdep 2 92 (by kernel_rfl) (by kernel_rfl)
                  clear hdep hsame hi hlate hfr hkeep
                  exact .inl ⟨wanted_none rfl, showsO_pure hsn rfl (.pointer (some ⟨b, 2, none⟩)) (by simp only [execOp, Act.eval]; go_simp) rfl⟩
                | 4, hi =>
                  cases (show some _ = some o from hi)
                  have e93 : (f.tmps.getD 93 undef) = .pointer (some ⟨b, 2, none⟩) := depO (V := (VEa15 none b n L k c N base (X.heap.size) z l2)) hdep 3 93 (by kernel_rfl) (by kernel_rfl)
                  clear hdep hsame hi hlate hfr hkeep
                  have c2 := er_cellAt ((hkeep8 18 (.inr (by kernel_rfl)) b XBL.out (ownBR_one _ _ _ _)).trans XBX.out) 2 _ rfl
                  exact .inl ⟨wanted_none rfl, showsO_pure hsn rfl (.slice none L c) (by simp only [execOp, Act.eval]; go_simp) rfl⟩
                | 5, hi =>
                  cases (show some _ = some o from hi)
                  have e0 : f.tmps.getD 0 undef = .pointer (some ⟨b, 0, none⟩) := hsame.slot 0 (fun i o h => invB2_not 0 (by kernel_rfl) h)
                  clear hdep hsame hi hlate hfr hkeep
                  exact .inl ⟨wanted_none rfl, showsO_move hsn rfl _ rfl e0⟩
                | 6, hi =>
                  cases (show some _ = some o from hi)
                  have e95 : (f.tmps.getD 95 undef) = .pointer (some ⟨b, 0, none⟩) := depO (V := (VEa15 none b n L k c N base (X.heap.size) z l2)) hdep 5 95 (by kernel_rfl) (by kernel_rfl)
                  clear hdep hsame hi hlate hfr hkeep
                  exact .inl ⟨wanted_none rfl, showsO_pure hsn rfl (.pointer (some ⟨b, 0, none⟩)) (by simp only [execOp, Act.eval]; go_simp) rfl⟩
                | 7, hi =>
                  cases (show some _ = some o from hi)
                  have e96 : (f.tmps.getD 96 undef) = .pointer (some ⟨b, 0, none⟩) := depO (V := (VEa15 none b n L k c N base (X.heap.size) z l2)) hdep 6 96 (by kernel_rfl) (by kernel_rfl)
                  clear hdep hsame hi hlate hfr hkeep
                  exact .inl ⟨wanted_none rfl, showsO_pure hsn rfl (.pointer (some ⟨b, 2, none⟩)) (by simp only [execOp, Act.eval]; go_simp) rfl⟩
                | 8, hi =>
                  cases (show some _ = some o from hi)
                  have e97 : (f.tmps.getD 97 undef) = .pointer (some ⟨b, 2, none⟩) := depO (V := (VEa15 none b n L k c N base (X.heap.size) z l2)) hdep 7 97 (by kernel_rfl) (by kernel_rfl)
                  clear hdep hsame hi hlate hfr hkeep
                  have c2 := er_cellAt ((hkeep8 18 (.inr (by kernel_rfl)) b XBL.out (ownBR_one _ _ _ _)).trans XBX.out) 2 _ rfl
                  exact .inl ⟨wanted_none rfl, showsO_pure hsn rfl (.slice none L c) (by simp only [execOp, Act.eval]; go_simp) rfl⟩
                | 9, hi =>
                  cases (show some _ = some o from hi)
                  have e98 : (f.tmps.getD 98 undef) = .slice none L c := depO (V := (VEa15 none b n L k c N base (X.heap.size) z l2)) hdep 8 98 (by kernel_rfl) (by kernel_rfl)
                  clear hdep hsame hi hlate hfr hkeep
                  exact .inl ⟨wanted_none rfl, showsO_pure hsn rfl (.int .i64 (L : Int)) (by simp only [execOp, Act.eval]; go_simp) rfl⟩
                | 10, hi =>
                  cases (show some _ = some o from hi)
                  have e6 : f.tmps.getD 6 undef = .int .i64 (k : Int) := hsame.slot 6 (fun i o h => invB2_not 6 (by kernel_rfl) h)
                  clear hdep hsame hi hlate hfr hkeep
                  exact .inl ⟨wanted_none rfl, showsO_move hsn rfl _ rfl e6⟩
                | 11, hi =>
                  cases (show some _ = some o from hi)
                  have e99 : (f.tmps.getD 99 undef) = .int .i64 (L : Int) := depO (V := (VEa15 none b n L k c N base (X.heap.size) z l2)) hdep 9 99 (by kernel_rfl) (by kernel_rfl)
                  have e100 : (f.tmps.getD 100 undef) = .int .i64 (k : Int) := depO (V := (VEa15 none b n L k c N base (X.heap.size) z l2)) hdep 10 100 (by kernel_rfl) (by kernel_rfl)
                  clear hdep hsame hi hlate hfr hkeep
                  have hl := KL.out
                  have hm := L64.out
                  exact .inl ⟨wanted_none rfl, showsO_pure hsn rfl (.int .i64 ((L - k : Nat) : Int)) (by simp only [execOp, Act.eval]; go_simp; simp [IntKind.wrap, IntKind.bits, IntKind.signed]; omega) rfl⟩
                | 12, hi =>
                  cases (show some _ = some o from hi)
                  have e94 : (f.tmps.getD 94 undef) = .slice none L c := depO (V := (VEa15 none b n L k c N base (X.heap.size) z l2)) hdep 4 94 (by kernel_rfl) (by kernel_rfl)
                  have e101 : (f.tmps.getD 101 undef) = .int .i64 ((L - k : Nat) : Int) := depO (V := (VEa15 none b n L k c N base (X.heap.size) z l2)) hdep 11 101 (by kernel_rfl) (by kernel_rfl)
                  clear hdep hsame hi hlate hfr hkeep
                  have hl := KL.out
                  have hm := L64.out
                  have hc := LC.out
                  have hc2 := LC2.out
                  have hc0 := HC0.out
                  have hz0 : L - k = 0 := by omega
                  exact .inl ⟨wanted_none rfl, showsO_pure hsn rfl (.slice none (L - k) c) (by simp only [execOp, Act.eval]; go_simp) rfl⟩
                | 13, hi =>
                  cases (show some _ = some o from hi)
                  have e3 : f.tmps.getD 3 undef = .pointer (some ⟨N, 0, none⟩) := hsame.slot 3 (fun i o h => invB2_not 3 (by kernel_rfl) h)
                  clear hdep hsame hi hlate hfr hkeep
                  exact .inl ⟨wanted_none rfl, showsO_row hsn rfl 66 (.tmp 3) rfl N e3 (ocells z) ((hsn.keep N NXL.out NON.out).trans YX.out) underH rfl (hszL ZL.out) rfl⟩
                | 14, hi =>
                  cases (show some _ = some o from hi)
                  have e103 : (f.tmps.getD 103 undef) = .agg (ocells (z)) := depO (V := (VEa15 none b n L k c N base (X.heap.size) z l2)) hdep 13 103 (by kernel_rfl) (by kernel_rfl)
                  clear hdep hsame hi hlate hfr hkeep
                  exact .inl ⟨wanted_none rfl, showsO_built hsn rfl 1 66 (ocells z) (run_bs_one u (.tmp 103) rfl z ZL.out e103) (fun h => h)⟩
                | 15, hi =>
                  cases (show some _ = some o from hi)
                  have e102 : (f.tmps.getD 102 undef) = .slice none (L - k) c := depO (V := (VEa15 none b n L k c N base (X.heap.size) z l2)) hdep 12 102 (by kernel_rfl) (by kernel_rfl)
                  have e104 : BuiltV own u (f.tmps.getD 104 undef) 1 66 (ocells z) := depO (V := (VEa15 none b n L k c N base (X.heap.size) z l2)) hdep 14 104 (by kernel_rfl) (by kernel_rfl)
                  clear hdep hsame hi hlate hfr
                  exact .inl ⟨wanted_none rfl, showsO_appendW hsn hkeep rfl (.tmp 102) (.tmp 104) 51 rfl base 66 j0 (.agg zeros32) 32 32 underHs RJ.out.1 RJ.out.2.1 RJ.out.2.2.1 RJ.out.2.2.2 rfl (by decide) (.slice none (L - k) c) (L - k) (hcells l2) e102 OX.out (fun j hj => ownBR_two hj (RNB.out j hj)) e104 (by rw [ocells_size, ZL.out]) (ocells_one _) Q1.out Q2.out QB.out (fun _ _ _ h => h)⟩
                | 16, hi =>
                  cases (show some _ = some o from hi)
                  have e90 : (f.tmps.getD 90 undef) = .pointer (some ⟨b, 0, none⟩) := depO (V := (VEa15 none b n L k c N base (X.heap.size) z l2)) hdep 0 90 (by kernel_rfl) (by kernel_rfl)
                  clear hdep hsame hi hlate hfr hkeep
                  exact .inl ⟨wanted_none rfl, showsO_pure hsn rfl (.pointer (some ⟨b, 0, none⟩)) (by simp only [execOp, Act.eval]; go_simp) rfl⟩
                | 17, hi =>
                  cases (show some _ = some o from hi)
                  have e106 : (f.tmps.getD 106 undef) = .pointer (some ⟨b, 0, none⟩) := depO (V := (VEa15 none b n L k c N base (X.heap.size) z l2)) hdep 16 106 (by kernel_rfl) (by kernel_rfl)
                  clear hdep hsame hi hlate hfr hkeep
                  exact .inl ⟨wanted_none rfl, showsO_pure hsn rfl (.pointer (some ⟨b, 2, none⟩)) (by simp only [execOp, Act.eval]; go_simp) rfl⟩
                | 18, hi =>
                  cases (show some _ = some o from hi)
                  have e105 : GrownW own u 15 base 66 32 (f.tmps.getD 105 undef) (L - k + 1) (hcells l2 ++ (ocells z).toList) (.slice none (L - k) c) (X.heap.size) := depO (V := (VEa15 none b n L k c N base (X.heap.size) z l2)) hdep 15 105 (by kernel_rfl) (by kernel_rfl)
                  have e107 : (f.tmps.getD 107 undef) = .pointer (some ⟨b, 2, none⟩) := depO (V := (VEa15 none b n L k c N base (X.heap.size) z l2)) hdep 17 107 (by kernel_rfl) (by kernel_rfl)
                  clear hdep hsame hi hlate hfr hkeep
                  have hst := er_cellAt ((hkeep8 18 (.inl rfl) b XBL.out (ownBR_one _ _ _ _)).trans XBX.out) 2 _ rfl
                  have hfr2 : u.frozen? ⟨b, 2, none⟩ = false := by simp [World.frozen?, ((hkeep8 18 (.inl rfl) b XBL.out (ownBR_one _ _ _ _)).trans XBX.out)]
                  obtain ⟨a1, c1, ev, _, _, _⟩ := own_shape e105.1.1
                  rw [ev] at e105
                  have hob : own b = some 18 := (hsn.owns b XBL.out).trans (ownBR_one _ _ _ _)
                  have HQ : ∀ {v}, GrownW own u 15 base 66 32 v (L - k + 1) (hcells l2 ++ (ocells z).toList) (.slice none (L - k) c) (X.heap.size) → GrownW own u 15 base 66 32 v (L - k + 1) (hcells l2 ++ (ocells z).toList) (.slice none (L - k) c) (X.heap.size) := fun h => h
                  exact .inl ⟨wanted_none rfl, showsO_store_cell hsn hkeep8 rfl b 2 #[.bool true, .int .u64 (n : Int), .slice none L c] 60 XBX.out (ownBR_one _ _ _ _) (.slice a1 (L - k + 1) c1) (by simp only [execOp, Act.eval]; go_simp) (fun h => ⟨_, h, grownW_setCell (HQ e105) b 2 _ hob (by decide)⟩)⟩
                | n + 19, hi => exact absurd hi (by simp)
              · intro f u own hsame hsn hall
                have q90 : f.tmps.getD 90 undef = .pointer (some ⟨b, 0, none⟩) := finO (V := (VEa15 none b n L k c N base (X.heap.size) z l2)) hall 0 90 rfl
                have q91 : f.tmps.getD 91 undef = .pointer (some ⟨b, 0, none⟩) := finO (V := (VEa15 none b n L k c N base (X.heap.size) z l2)) hall 1 91 rfl
                have q92 : f.tmps.getD 92 undef = .pointer (some ⟨b, 0, none⟩) := finO (V := (VEa15 none b n L k c N base (X.heap.size) z l2)) hall 2 92 rfl
                have q93 : f.tmps.getD 93 undef = .pointer (some ⟨b, 2, none⟩) := finO (V := (VEa15 none b n L k c N base (X.heap.size) z l2)) hall 3 93 rfl
                have q94 : f.tmps.getD 94 undef = .slice none L c := finO (V := (VEa15 none b n L k c N base (X.heap.size) z l2)) hall 4 94 rfl
                have q95 : f.tmps.getD 95 undef = .pointer (some ⟨b, 0, none⟩) := finO (V := (VEa15 none b n L k c N base (X.heap.size) z l2)) hall 5 95 rfl
                have q96 : f.tmps.getD 96 undef = .pointer (some ⟨b, 0, none⟩) := finO (V := (VEa15 none b n L k c N base (X.heap.size) z l2)) hall 6 96 rfl
                have q97 : f.tmps.getD 97 undef = .pointer (some ⟨b, 2, none⟩) := finO (V := (VEa15 none b n L k c N base (X.heap.size) z l2)) hall 7 97 rfl
                have q98 : f.tmps.getD 98 undef = .slice none L c := finO (V := (VEa15 none b n L k c N base (X.heap.size) z l2)) hall 8 98 rfl
                have q99 : f.tmps.getD 99 undef = .int .i64 (L : Int) := finO (V := (VEa15 none b n L k c N base (X.heap.size) z l2)) hall 9 99 rfl
                have q100 : f.tmps.getD 100 undef = .int .i64 (k : Int) := finO (V := (VEa15 none b n L k c N base (X.heap.size) z l2)) hall 10 100 rfl
                have q101 : f.tmps.getD 101 undef = .int .i64 ((L - k : Nat) : Int) := finO (V := (VEa15 none b n L k c N base (X.heap.size) z l2)) hall 11 101 rfl
                have q102 : f.tmps.getD 102 undef = .slice none (L - k) c := finO (V := (VEa15 none b n L k c N base (X.heap.size) z l2)) hall 12 102 rfl
                have q103 : f.tmps.getD 103 undef = .agg (ocells (z)) := finO (V := (VEa15 none b n L k c N base (X.heap.size) z l2)) hall 13 103 rfl
                obtain ⟨g104, q104, o104, m104⟩ : BuiltV own u (f.tmps.getD 104 undef) 1 66 (ocells z) := finO (V := (VEa15 none b n L k c N base (X.heap.size) z l2)) hall 14 104 rfl
                have m105 := finO (V := (VEa15 none b n L k c N base (X.heap.size) z l2)) hall 15 105 rfl
                obtain ⟨r105, q105⟩ : ∃ r, f.tmps.getD 105 undef = r := ⟨_, rfl⟩
                rw [q105] at m105
                have q106 : f.tmps.getD 106 undef = .pointer (some ⟨b, 0, none⟩) := finO (V := (VEa15 none b n L k c N base (X.heap.size) z l2)) hall 16 106 rfl
                have q107 : f.tmps.getD 107 undef = .pointer (some ⟨b, 2, none⟩) := finO (V := (VEa15 none b n L k c N base (X.heap.size) z l2)) hall 17 107 rfl
                obtain ⟨s1, ⟨ob, hbb⟩, ⟨gw, gf⟩, gz⟩ := finN (V := (VEa15 none b n L k c N base (X.heap.size) z l2)) hall 18 rfl
                obtain rfl := frame_eq hsame [(90, .pointer (some ⟨b, 0, none⟩)), (91, .pointer (some ⟨b, 0, none⟩)), (92, .pointer (some ⟨b, 0, none⟩)), (93, .pointer (some ⟨b, 2, none⟩)), (94, .slice none L c), (95, .pointer (some ⟨b, 0, none⟩)), (96, .pointer (some ⟨b, 0, none⟩)), (97, .pointer (some ⟨b, 2, none⟩)), (98, .slice none L c), (99, .int .i64 (L : Int)), (100, .int .i64 (k : Int)), (101, .int .i64 ((L - k : Nat) : Int)), (102, .slice none (L - k) c), (103, .agg (ocells (z))), (104, .slice (some ⟨g104, 0, none⟩) 1 1), (105, r105), (106, .pointer (some ⟨b, 0, none⟩)), (107, .pointer (some ⟨b, 2, none⟩))] (by kernel_rfl) ⟨q90, q91, q92, q93, q94, q95, q96, q97, q98, q99, q100, q101, q102, q103, q104, q105, q106, q107, trivial⟩
                clear hall hsame q90 q91 q92 q93 q94 q95 q96 q97 q98 q99 q100 q101 q102 q103 q104 q105 q106 q107
                simp only [List.foldl, List.setIfInBounds_toArray, List.set_cons_succ, List.set_cons_zero]
                have kbr := hsn.keepBR
                have nx2 := own_keep NX.out kbr (fun j hj e => by
                  have h1 := ownsRow_fresh NX.out j hj
                  have h2 := NB1.out
                  rcases e with e | e
                  · have := BL.out; omega
                  · have := RLT.out j e; omega)
                have c1 := er_cellAt hbb 1 _ rfl
                have f1 := er_frozen hbb 1
                have SNE := Bx.mk (fun j (hj : s1.ownBlock = some j) => (show j ≠ b by
                  rintro rfl
                  rcases gf j hj with h1 | h1 <;> rw [ob] at h1 <;> cases h1))
                have HBB := Bx.mk hbb; have GW := Bx.mk gw; have GZ := Bx.mk gz; have KBR := Bx.mk kbr; have NX2 := Bx.mk nx2
                clear hbb gw gz kbr nx2 gf ob m105 hsn
                go_wp2_with fail
                go_ret2
                refine ⟨_, rfl, ?_, ?_, s1, ⟨?_, HB.out.bb, ?_, lsB_mem HL.out HB.out.h32⟩, fun j hj => ?_⟩
                · rw [← HK.out]
                  exact ownsRow_mono (ownsRow_setCell_ne NX2.out ⟨b, 1, none⟩ _ (fun j hj e => by have h1 := ownsRow_fresh NX.out j hj; have h2 := NB1.out; have h3 := BL.out; have h4 : j = b := e; omega)) (by rw [← HN.out]; exact Nat.le_of_lt NB1.out)
                · refine (KX.out.trans (KBR.out.mono (S' := BuS b (.slice none ls.length c)) (fun j _ h => h)) (fun _ _ h => h)).trans ((Keep.setCell u ⟨b, 1, none⟩ _).mono (S' := BuS b (.slice none ls.length c)) (fun j _ h => .inl h)) (fun _ _ h => h)
                · simp [World.setCell, Array.getElem?_modify, HBB.out]
                · have e : lsB n ls p = l2 ++ [z] := by unfold lsB; rw [← HK.out, ← LL.out, ← HL2.out, ← HZ.out]
                  have e2 : (l2 ++ [z]).length = L - k + 1 := by rw [List.length_append, HL2.out, List.length_take, ← LL.out]; have := KL.out; simp; try omega
                  rw [e, e2, ← hcells_push]
                  exact ownsRow_setCell_ne GW.out ⟨b, 1, none⟩ _ (fun j hj e => SNE.out j hj e)
                · rcases GZ.out j hj with h1 | h1
                  · exact .inl h1
                  · exact .inr (Nat.le_trans KX.out.size h1)
          · cases e
            by_cases hfu : c = L - k
            · have HFU := Bx.mk hfu
              clear hk0 hL hfu
              go_upto_region 13 with (fail)
              refine wp_region_own4 (n := 116) VEa13fmk (fun _ => none) (VEa13f b g c L k) (by kernel_rfl) (by kernel_rfl) rfl (fun _ _ => rfl) (fun j i hj _ => by cases hj) ?_ ?_ ?_
              · exact fun oi oj v own w own' w' hij _ h r => VEa13f_mono b g c L k oi oj v own w own' w' hij h r
              · intro oi o hi f u own hsame hsn hfr hlate hkeep hdep
                have hb6 := hsn.below (B := wr.heap.size) (fun _ _ => rfl) (Nat.le_refl _)
                have hbN : Below N W u := BW.out.trans (hb6.mono (Nat.le_trans NW.out BW.out.size))
                match oi, hi with
                | 0, hi =>
                  cases (show some _ = some o from hi)
                  have e0 : f.tmps.getD 0 undef = .pointer (some ⟨b, 0, none⟩) := hsame.slot 0 (fun i o h => invB2_not 0 (by kernel_rfl) h)
                  clear hdep hsame hi hlate hfr hkeep
                  exact .inl ⟨wanted_none rfl, showsO_move hsn rfl _ rfl e0⟩
                | 1, hi =>
                  cases (show some _ = some o from hi)
                  have e77 : (f.tmps.getD 77 undef) = .pointer (some ⟨b, 0, none⟩) := depO (V := (VEa13f b g c L k)) hdep 0 77 (by kernel_rfl) (by kernel_rfl)
                  clear hdep hsame hi hlate hfr hkeep
                  exact .inl ⟨wanted_none rfl, showsO_pure hsn rfl (.pointer (some ⟨b, 0, none⟩)) (by simp only [execOp, Act.eval]; go_simp) rfl⟩
                | 2, hi =>
                  cases (show some _ = some o from hi)
                  have e78 : (f.tmps.getD 78 undef) = .pointer (some ⟨b, 0, none⟩) := depO (V := (VEa13f b g c L k)) hdep 1 78 (by kernel_rfl) (by kernel_rfl)
                  clear hdep hsame hi hlate hfr hkeep
                  exact .inl ⟨wanted_none rfl, showsO_pure hsn rfl (.pointer (some ⟨b, 2, none⟩)) (by simp only [execOp, Act.eval]; go_simp) rfl⟩
                | 3, hi =>
                  cases (show some _ = some o from hi)
                  have e79 : (f.tmps.getD 79 undef) = .pointer (some ⟨b, 2, none⟩) := depO (V := (VEa13f b g c L k)) hdep 2 79 (by kernel_rfl) (by kernel_rfl)
                  clear hdep hsame hi hlate hfr hkeep
                  have c2 := er_cellAt (XB.out u hbN) 2 _ rfl
                  rw [← LL.out] at c2
                  exact .inl ⟨wanted_none rfl, showsO_pure hsn rfl (.slice (some ⟨g, 0, none⟩) L c) (by simp only [execOp, Act.eval]; go_simp) rfl⟩
                | 4, hi =>
                  cases (show some _ = some o from hi)
                  have e0 : f.tmps.getD 0 undef = .pointer (some ⟨b, 0, none⟩) := hsame.slot 0 (fun i o h => invB2_not 0 (by kernel_rfl) h)
                  clear hdep hsame hi hlate hfr hkeep
                  exact .inl ⟨wanted_none rfl, showsO_move hsn rfl _ rfl e0⟩
                | 5, hi =>
                  cases (show some _ = some o from hi)
                  have e81 : (f.tmps.getD 81 undef) = .pointer (some ⟨b, 0, none⟩) := depO (V := (VEa13f b g c L k)) hdep 4 81 (by kernel_rfl) (by kernel_rfl)
                  clear hdep hsame hi hlate hfr hkeep
                  exact .inl ⟨wanted_none rfl, showsO_pure hsn rfl (.pointer (some ⟨b, 0, none⟩)) (by simp only [execOp, Act.eval]; go_simp) rfl⟩
                | 6, hi =>
                  cases (show some _ = some o from hi)
                  have e82 : (f.tmps.getD 82 undef) = .pointer (some ⟨b, 0, none⟩) := depO (V := (VEa13f b g c L k)) hdep 5 82 (by kernel_rfl) (by kernel_rfl)
                  clear hdep hsame hi hlate hfr hkeep
                  exact .inl ⟨wanted_none rfl, showsO_pure hsn rfl (.pointer (some ⟨b, 2, none⟩)) (by simp only [execOp, Act.eval]; go_simp) rfl⟩
                | 7, hi =>
                  cases (show some _ = some o from hi)
                  have e83 : (f.tmps.getD 83 undef) = .pointer (some ⟨b, 2, none⟩) := depO (V := (VEa13f b g c L k)) hdep 6 83 (by kernel_rfl) (by kernel_rfl)
                  clear hdep hsame hi hlate hfr hkeep
                  have c2 := er_cellAt (XB.out u hbN) 2 _ rfl
                  rw [← LL.out] at c2
                  exact .inl ⟨wanted_none rfl, showsO_pure hsn rfl (.slice (some ⟨g, 0, none⟩) L c) (by simp only [execOp, Act.eval]; go_simp) rfl⟩
                | 8, hi =>
                  cases (show some _ = some o from hi)
                  have e84 : (f.tmps.getD 84 undef) = .slice (some ⟨g, 0, none⟩) L c := depO (V := (VEa13f b g c L k)) hdep 7 84 (by kernel_rfl) (by kernel_rfl)
                  clear hdep hsame hi hlate hfr hkeep
                  exact .inl ⟨wanted_none rfl, showsO_pure hsn rfl (.int .i64 (L : Int)) (by simp only [execOp, Act.eval]; go_simp) rfl⟩
                | 9, hi =>
                  cases (show some _ = some o from hi)
                  have e6 : f.tmps.getD 6 undef = .int .i64 (k : Int) := hsame.slot 6 (fun i o h => invB2_not 6 (by kernel_rfl) h)
                  clear hdep hsame hi hlate hfr hkeep
                  exact .inl ⟨wanted_none rfl, showsO_move hsn rfl _ rfl e6⟩
                | 10, hi =>
                  cases (show some _ = some o from hi)
                  have e85 : (f.tmps.getD 85 undef) = .int .i64 (L : Int) := depO (V := (VEa13f b g c L k)) hdep 8 85 (by kernel_rfl) (by kernel_rfl)
                  have e86 : (f.tmps.getD 86 undef) = .int .i64 (k : Int) := depO (V := (VEa13f b g c L k)) hdep 9 86 (by kernel_rfl) (by kernel_rfl)
                  clear hdep hsame hi hlate hfr hkeep
                  have hl := KL.out
                  have hm := L64.out
                  exact .inl ⟨wanted_none rfl, showsO_pure hsn rfl (.int .i64 ((L - k : Nat) : Int)) (by simp only [execOp, Act.eval]; go_simp; simp [IntKind.wrap, IntKind.bits, IntKind.signed]; omega) rfl⟩
                | 11, hi =>
                  cases (show some _ = some o from hi)
                  have e80 : (f.tmps.getD 80 undef) = .slice (some ⟨g, 0, none⟩) L c := depO (V := (VEa13f b g c L k)) hdep 3 80 (by kernel_rfl) (by kernel_rfl)
                  have e87 : (f.tmps.getD 87 undef) = .int .i64 ((L - k : Nat) : Int) := depO (V := (VEa13f b g c L k)) hdep 10 87 (by kernel_rfl) (by kernel_rfl)
                  clear hdep hsame hi hlate hfr hkeep
                  have hl := KL.out
                  have hm := L64.out
                  have hc := LC.out
                  have hc2 := LC2.out
                  have hle : L - k ≤ L := by omega
                  have hle2 : L - (L - k) = k := by omega
                  have hle3 : L - k ≤ c := by omega
                  have hfu := HFU.out
                  exact .inl ⟨wanted_none rfl, showsO_pure hsn rfl (.slice (some ⟨g, 0, none⟩) k (c - (L - k))) (by simp only [execOp, Act.eval]; go_simp) rfl⟩
                | 12, hi =>
                  cases (show some _ = some o from hi)
                  have e88 : (f.tmps.getD 88 undef) = .slice (some ⟨g, 0, none⟩) k (c - (L - k)) := depO (V := (VEa13f b g c L k)) hdep 11 88 (by kernel_rfl) (by kernel_rfl)
                  clear hdep hsame hi hlate hfr hkeep
                  exact .inl ⟨wanted_none rfl, showsO_assign hsn rfl _ rfl e88⟩
                | n + 13, hi => exact absurd hi (by simp)
              · intro f u own hsame hsn hall
                have q77 : f.tmps.getD 77 undef = .pointer (some ⟨b, 0, none⟩) := finO (V := (VEa13f b g c L k)) hall 0 77 rfl
                have q78 : f.tmps.getD 78 undef = .pointer (some ⟨b, 0, none⟩) := finO (V := (VEa13f b g c L k)) hall 1 78 rfl
                have q79 : f.tmps.getD 79 undef = .pointer (some ⟨b, 2, none⟩) := finO (V := (VEa13f b g c L k)) hall 2 79 rfl
                have q80 : f.tmps.getD 80 undef = .slice (some ⟨g, 0, none⟩) L c := finO (V := (VEa13f b g c L k)) hall 3 80 rfl
                have q81 : f.tmps.getD 81 undef = .pointer (some ⟨b, 0, none⟩) := finO (V := (VEa13f b g c L k)) hall 4 81 rfl
                have q82 : f.tmps.getD 82 undef = .pointer (some ⟨b, 0, none⟩) := finO (V := (VEa13f b g c L k)) hall 5 82 rfl
                have q83 : f.tmps.getD 83 undef = .pointer (some ⟨b, 2, none⟩) := finO (V := (VEa13f b g c L k)) hall 6 83 rfl
                have q84 : f.tmps.getD 84 undef = .slice (some ⟨g, 0, none⟩) L c := finO (V := (VEa13f b g c L k)) hall 7 84 rfl
                have q85 : f.tmps.getD 85 undef = .int .i64 (L : Int) := finO (V := (VEa13f b g c L k)) hall 8 85 rfl
                have q86 : f.tmps.getD 86 undef = .int .i64 (k : Int) := finO (V := (VEa13f b g c L k)) hall 9 86 rfl
                have q87 : f.tmps.getD 87 undef = .int .i64 ((L - k : Nat) : Int) := finO (V := (VEa13f b g c L k)) hall 10 87 rfl
                have q88 : f.tmps.getD 88 undef = .slice (some ⟨g, 0, none⟩) k (c - (L - k)) := finO (V := (VEa13f b g c L k)) hall 11 88 rfl
                have q9 : f.tmps.getD 9 undef = .slice (some ⟨g, 0, none⟩) k (c - (L - k)) := finO (V := (VEa13f b g c L k)) hall 12 9 rfl
                obtain rfl := frame_eq hsame [(77, .pointer (some ⟨b, 0, none⟩)), (78, .pointer (some ⟨b, 0, none⟩)), (79, .pointer (some ⟨b, 2, none⟩)), (80, .slice (some ⟨g, 0, none⟩) L c), (81, .pointer (some ⟨b, 0, none⟩)), (82, .pointer (some ⟨b, 0, none⟩)), (83, .pointer (some ⟨b, 2, none⟩)), (84, .slice (some ⟨g, 0, none⟩) L c), (85, .int .i64 (L : Int)), (86, .int .i64 (k : Int)), (87, .int .i64 ((L - k : Nat) : Int)), (88, .slice (some ⟨g, 0, none⟩) k (c - (L - k))), (9, .slice (some ⟨g, 0, none⟩) k (c - (L - k)))] (by kernel_rfl) ⟨q77, q78, q79, q80, q81, q82, q83, q84, q85, q86, q87, q88, q9, trivial⟩
                clear hall hsame q77 q78 q79 q80 q81 q82 q83 q84 q85 q86 q87 q88 q9
                simp only [List.foldl, List.setIfInBounds_toArray, List.set_cons_succ, List.set_cons_zero]
                have b6 := hsn.below (B := wr.heap.size) (fun _ _ => rfl) (Nat.le_refl _)
                have bN : Below N W u := BW.out.trans (b6.mono (Nat.le_trans NW.out BW.out.size))
                have bW : Below w.heap.size w u := by rw [← HN.out]; exact KB.out.trans bN
                have hBu := HB.out.below bW
                have hou := hBu.own
                have elk : L - k = ls.length := by have := K0.out; have := LL.out; omega
                have hcl : ∀ ty c9, (Builtin.clear_ #[51] ty #[.slice (some ⟨g, 0, none⟩) k c9]).run Tryz.prog u = .ok (.tuple #[]) u := fun ty c9 => clear_none u ty _ k c9 K0.out
                have y1 := hBu.hb
                have yN := (b6.block N (Array.getElem?_eq_some_iff.1 YN.out).1).trans YN.out
                have nx := ownsRow_keep' HO.out fun j hj => b6.block j (ownsRow_lt HO.out j hj)
                have kx := Keep.of_below bW (BuS b (.slice (some ⟨g, 0, none⟩) ls.length c))
                rw [← LL.out] at y1
                have x3 : u.ownsRow base 66 32 (.slice (some ⟨g, 0, none⟩) (L - k) c) (L - k) (hcells (ls.take (L - k))) := by rw [elk, List.take_length]; exact hou
                clear hou hBu bW b6 hsn elk
                go_upto_region 15 with (simp only [hcl])
                clear hcl bN
                obtain ⟨X, hX⟩ : ∃ X, X = u := ⟨_, rfl⟩
                rw [← hX] at x3 y1 yN nx kx ⊢
                clear hX
                have XBX := Bx.mk y1; have YX0 := Bx.mk yN; have OX0 := Bx.mk x3; have NX := Bx.mk nx; have KX := Bx.mk kx
                clear y1 yN x3 nx kx
                obtain ⟨z, hz⟩ : ∃ z, z = hkB ls p k := ⟨_, rfl⟩
                have YX := Bx.mk (show X.heap[N]? = some (.cells (ocells z) 66 (0, 0)) by rw [hz]; exact YX0.out)
                have ZL := Bx.mk (show z.length = 32 by rw [hz]; exact hkB_length HL.out k); have HZ := Bx.mk hz
                obtain ⟨l2, hl2⟩ : ∃ l2, l2 = ls.take (L - k) := ⟨_, rfl⟩
                have OX := Bx.mk (show X.ownsRow base 66 32 (.slice (some ⟨g, 0, none⟩) (L - k) c) (L - k) (hcells l2) by rw [hl2]; exact OX0.out); have HL2 := Bx.mk hl2
                have RNB := Bx.mk (fun j (hj : (Value.slice (some ⟨g, 0, none⟩) (L - k) c).ownBlock = some j) => HB.out.ne j hj)
                have RLT := Bx.mk (fun j (hj : (Value.slice (some ⟨g, 0, none⟩) (L - k) c).ownBlock = some j) => (show j < N by rw [HN.out]; exact HB.out.lt j (.inr hj)))
                have XBL := Bx.mk (Array.getElem?_eq_some_iff.1 XBX.out).1; have NXL := Bx.mk (Array.getElem?_eq_some_iff.1 YX.out).1
                have NON := Bx.mk (ownBR_none (i := 18) (j := 15) (fun e => Nat.lt_irrefl _ (RLT.out N e)) (Nat.ne_of_gt BL.out))
                have HTP := Bx.mk (fun k' (hk' : X.heap.size ≤ k') => ownBR_none (b := b) (v := .slice (some ⟨g, 0, none⟩) (L - k) c) (i := 18) (j := 15) (k := k') (fun e => by have := RLT.out _ e; have := NXL.out; omega) (by have := XBL.out; omega))
                obtain ⟨j0, hj0, hy0, hy1, hy2⟩ := info_parts infoH
                have RJ := Bx.mk (And.intro hj0 (And.intro hy0 (And.intro hy1 hy2)))
                have Q1 := Bx.mk (show L - k + 1 ≤ maxLen by have := L64.out; unfold maxLen; omega); have Q2 := Bx.mk (show (L - k + 1) * 32 ≤ 140737488355328 by have := L64.out; omega)
                have QB := Bx.mk (show base ≤ X.heap.size from Nat.le_trans HBS.out (by have := NXL.out; have := HN.out; omega))
                clear hz hl2 hj0 hy0 hy1 hy2
                refine wp_region_own8 (n := 116) VEa15mk (ownBR b (.slice (some ⟨g, 0, none⟩) (L - k) c) 18 15) (VEa15 (some ⟨g, 0, none⟩) b n L k c N base (X.heap.size) z l2) (by kernel_rfl) (by kernel_rfl) rfl (fun k hk => HTP.out k hk) (fun j i hj _ => by cases hj) ?_ ?_ ?_
                · exact fun oi oj v own w own' w' hij hnd h r => VEa15_mono (some ⟨g, 0, none⟩) b n L k c N base (X.heap.size) z l2 oi oj v own w own' w' hij (by rintro rfl rfl; exact Bool.noConfusion (hnd.symm.trans (show depB _ 18 15 = true by kernel_rfl))) h r
                · intro oi o hi f u own hsame hsn hfr hlate hkeep8 hdep
                  have hkeep := hkeep8 _ (.inl rfl)
                  match oi, hi with
                  | 0, hi =>
                    cases (show some _ = some o from hi)
                    have e0 : f.tmps.getD 0 undef = .pointer (some ⟨b, 0, none⟩) := hsame.slot 0 (fun i o h => invB2_not 0 (by kernel_rfl) h)
                    clear hdep hsame hi hlate hfr hkeep
                    exact .inl ⟨wanted_none rfl, showsO_move hsn rfl _ rfl e0⟩
                  | 1, hi =>
                    cases (show some _ = some o from hi)
                    have e0 : f.tmps.getD 0 undef = .pointer (some ⟨b, 0, none⟩) := hsame.slot 0 (fun i o h => invB2_not 0 (by kernel_rfl) h)
                    clear hdep hsame hi hlate hfr hkeep
                    exact .inl ⟨wanted_none rfl, showsO_move hsn rfl _ rfl e0⟩
                  | 2, hi =>
                    cases (show some _ = some o from hi)
                    have e91 : (f.tmps.getD 91 undef) = .pointer (some ⟨b, 0, none⟩) := depO (V := (VEa15 (some ⟨g, 0, none⟩) b n L k c N base (X.heap.size) z l2)) hdep 1 91 (by kernel_rfl) (by kernel_rfl)
                    clear hdep hsame hi hlate hfr hkeep
                    exact .inl ⟨wanted_none rfl, showsO_pure hsn rfl (.pointer (some ⟨b, 0, none⟩)) (by simp only [execOp, Act.eval]; go_simp) rfl⟩
                  | 3, hi =>
                    cases (show some _ = some o from hi)
                    have e92 : (f.tmps.getD 92 undef) = .pointer (some ⟨b, 0, none⟩) := depO (V := (VEa15 (some ⟨g, 0, none⟩) b n L k c N base (X.heap.size) z l2)) hdep 2 92 (by kernel_rfl) (by kernel_rfl)
                    clear hdep hsame hi hlate hfr hkeep
                    exact .inl ⟨wanted_none rfl, showsO_pure hsn rfl (.pointer (some ⟨b, 2, none⟩)) (by simp only [execOp, Act.eval]; go_simp) rfl⟩
                  | 4, hi =>
                    cases (show some _ = some o from hi)
                    have e93 : (f.tmps.getD 93 undef) = .pointer (some ⟨b, 2, none⟩) := depO (V := (VEa15 (some ⟨g, 0, none⟩) b n L k c N base (X.heap.size) z l2)) hdep 3 93 (by kernel_rfl) (by kernel_rfl)
                    clear hdep hsame hi hlate hfr hkeep
                    have c2 := er_cellAt ((hkeep8 18 (.inr (by kernel_rfl)) b XBL.out (ownBR_one _ _ _ _)).trans XBX.out) 2 _ rfl
                    exact .inl ⟨wanted_none rfl, showsO_pure hsn rfl (.slice (some ⟨g, 0, none⟩) L c) (by simp only [execOp, Act.eval]; go_simp) rfl⟩
                  | 5, hi =>
                    cases (show some _ = some o from hi)
                    have e0 : f.tmps.getD 0 undef = .pointer (some ⟨b, 0, none⟩) := hsame.slot 0 (fun i o h => invB2_not 0 (by kernel_rfl) h)
                    clear hdep hsame hi hlate hfr hkeep
                    exact .inl ⟨wanted_none rfl, showsO_move hsn rfl _ rfl e0⟩
                  | 6, hi =>
                    cases (show some _ = some o from hi)
                    have e95 : (f.tmps.getD 95 undef) = .pointer (some ⟨b, 0, none⟩) := depO (V := (VEa15 (some ⟨g, 0, none⟩) b n L k c N base (X.heap.size) z l2)) hdep 5 95 (by kernel_rfl) (by kernel_rfl)
                    clear hdep hsame hi hlate hfr hkeep
                    exact .inl ⟨wanted_none rfl, showsO_pure hsn rfl (.pointer (some ⟨b, 0, none⟩)) (by simp only [execOp, Act.eval]; go_simp) rfl⟩
                  | 7, hi =>
                    cases (show some _ = some o from hi)
                    have e96 : (f.tmps.getD 96 undef) = .pointer (some ⟨b, 0, none⟩) := depO (V := (VEa15 (some ⟨g, 0, none⟩) b n L k c N base (X.heap.size) z l2)) hdep 6 96 (by kernel_rfl) (by kernel_rfl)
                    clear hdep hsame hi hlate hfr hkeep
                    exact .inl ⟨wanted_none rfl, showsO_pure hsn rfl (.pointer (some ⟨b, 2, none⟩)) (by simp only [execOp, Act.eval]; go_simp) rfl⟩
                  | 8, hi =>
                    cases (show some _ = some o from hi)
                    have e97 : (f.tmps.getD 97 undef) = .pointer (some ⟨b, 2, none⟩) := depO (V := (VEa15 (some ⟨g, 0, none⟩) b n L k c N base (X.heap.size) z l2)) hdep 7 97 (by kernel_rfl) (by kernel_rfl)
                    clear hdep hsame hi hlate hfr hkeep
                    have c2 := er_cellAt ((hkeep8 18 (.inr (by kernel_rfl)) b XBL.out (ownBR_one _ _ _ _)).trans XBX.out) 2 _ rfl
                    exact .inl ⟨wanted_none rfl, showsO_pure hsn rfl (.slice (some ⟨g, 0, none⟩) L c) (by simp only [execOp, Act.eval]; go_simp) rfl⟩
                  | 9, hi =>
                    cases (show some _ = some o from hi)
                    have e98 : (f.tmps.getD 98 undef) = .slice (some ⟨g, 0, none⟩) L c := depO (V := (VEa15 (some ⟨g, 0, none⟩) b n L k c N base (X.heap.size) z l2)) hdep 8 98 (by kernel_rfl) (by kernel_rfl)
                    clear hdep hsame hi hlate hfr hkeep
                    exact .inl ⟨wanted_none rfl, showsO_pure hsn rfl (.int .i64 (L : Int)) (by simp only [execOp, Act.eval]; go_simp) rfl⟩
                  | 10, hi =>
                    cases (show some _ = some o from hi)
                    have e6 : f.tmps.getD 6 undef = .int .i64 (k : Int) := hsame.slot 6 (fun i o h => invB2_not 6 (by kernel_rfl) h)
                    clear hdep hsame hi hlate hfr hkeep
                    exact .inl ⟨wanted_none rfl, showsO_move hsn rfl _ rfl e6⟩
                  | 11, hi =>
                    cases (show some _ = some o from hi)
                    have e99 : (f.tmps.getD 99 undef) = .int .i64 (L : Int) := depO (V := (VEa15 (some ⟨g, 0, none⟩) b n L k c N base (X.heap.size) z l2)) hdep 9 99 (by kernel_rfl) (by kernel_rfl)
                    have e100 : (f.tmps.getD 100 undef) = .int .i64 (k : Int) := depO (V := (VEa15 (some ⟨g, 0, none⟩) b n L k c N base (X.heap.size) z l2)) hdep 10 100 (by kernel_rfl) (by kernel_rfl)
                    clear hdep hsame hi hlate hfr hkeep
                    have hl := KL.out
                    have hm := L64.out
                    exact .inl ⟨wanted_none rfl, showsO_pure hsn rfl (.int .i64 ((L - k : Nat) : Int)) (by simp only [execOp, Act.eval]; go_simp; simp [IntKind.wrap, IntKind.bits, IntKind.signed]; omega) rfl⟩
                  | 12, hi =>
                    cases (show some _ = some o from hi)
                    have e94 : (f.tmps.getD 94 undef) = .slice (some ⟨g, 0, none⟩) L c := depO (V := (VEa15 (some ⟨g, 0, none⟩) b n L k c N base (X.heap.size) z l2)) hdep 4 94 (by kernel_rfl) (by kernel_rfl)
                    have e101 : (f.tmps.getD 101 undef) = .int .i64 ((L - k : Nat) : Int) := depO (V := (VEa15 (some ⟨g, 0, none⟩) b n L k c N base (X.heap.size) z l2)) hdep 11 101 (by kernel_rfl) (by kernel_rfl)
                    clear hdep hsame hi hlate hfr hkeep
                    have hl := KL.out
                    have hm := L64.out
                    have hc := LC.out
                    have hc2 := LC2.out
                    have hle3 : L - k ≤ c := by omega
                    exact .inl ⟨wanted_none rfl, showsO_pure hsn rfl (.slice (some ⟨g, 0, none⟩) (L - k) c) (by simp only [execOp, Act.eval]; go_simp) rfl⟩
                  | 13, hi =>
                    cases (show some _ = some o from hi)
                    have e3 : f.tmps.getD 3 undef = .pointer (some ⟨N, 0, none⟩) := hsame.slot 3 (fun i o h => invB2_not 3 (by kernel_rfl) h)
                    clear hdep hsame hi hlate hfr hkeep
                    exact .inl ⟨wanted_none rfl, showsO_row hsn rfl 66 (.tmp 3) rfl N e3 (ocells z) ((hsn.keep N NXL.out NON.out).trans YX.out) underH rfl (hszL ZL.out) rfl⟩
                  | 14, hi =>
                    cases (show some _ = some o from hi)
                    have e103 : (f.tmps.getD 103 undef) = .agg (ocells (z)) := depO (V := (VEa15 (some ⟨g, 0, none⟩) b n L k c N base (X.heap.size) z l2)) hdep 13 103 (by kernel_rfl) (by kernel_rfl)
                    clear hdep hsame hi hlate hfr hkeep
                    exact .inl ⟨wanted_none rfl, showsO_built hsn rfl 1 66 (ocells z) (run_bs_one u (.tmp 103) rfl z ZL.out e103) (fun h => h)⟩
                  | 15, hi =>
                    cases (show some _ = some o from hi)
                    have e102 : (f.tmps.getD 102 undef) = .slice (some ⟨g, 0, none⟩) (L - k) c := depO (V := (VEa15 (some ⟨g, 0, none⟩) b n L k c N base (X.heap.size) z l2)) hdep 12 102 (by kernel_rfl) (by kernel_rfl)
                    have e104 : BuiltV own u (f.tmps.getD 104 undef) 1 66 (ocells z) := depO (V := (VEa15 (some ⟨g, 0, none⟩) b n L k c N base (X.heap.size) z l2)) hdep 14 104 (by kernel_rfl) (by kernel_rfl)
                    clear hdep hsame hi hlate hfr
                    exact .inl ⟨wanted_none rfl, showsO_appendW hsn hkeep rfl (.tmp 102) (.tmp 104) 51 rfl base 66 j0 (.agg zeros32) 32 32 underHs RJ.out.1 RJ.out.2.1 RJ.out.2.2.1 RJ.out.2.2.2 rfl (by decide) (.slice (some ⟨g, 0, none⟩) (L - k) c) (L - k) (hcells l2) e102 OX.out (fun j hj => ownBR_two hj (RNB.out j hj)) e104 (by rw [ocells_size, ZL.out]) (ocells_one _) Q1.out Q2.out QB.out (fun _ _ _ h => h)⟩
                  | 16, hi =>
                    cases (show some _ = some o from hi)
                    have e90 : (f.tmps.getD 90 undef) = .pointer (some ⟨b, 0, none⟩) := depO (V := (VEa15 (some ⟨g, 0, none⟩) b n L k c N base (X.heap.size) z l2)) hdep 0 90 (by kernel_rfl) (by kernel_rfl)
                    clear hdep hsame hi hlate hfr hkeep
                    exact .inl ⟨wanted_none rfl, showsO_pure hsn rfl (.pointer (some ⟨b, 0, none⟩)) (by simp only [execOp, Act.eval]; go_simp) rfl⟩
                  | 17, hi =>
                    cases (show some _ = some o from hi)
                    have e106 : (f.tmps.getD 106 undef) = .pointer (some ⟨b, 0, none⟩) := depO (V := (VEa15 (some ⟨g, 0, none⟩) b n L k c N base (X.heap.size) z l2)) hdep 16 106 (by kernel_rfl) (by kernel_rfl)
                    clear hdep hsame hi hlate hfr hkeep
                    exact .inl ⟨wanted_none rfl, showsO_pure hsn rfl (.pointer (some ⟨b, 2, none⟩)) (by simp only [execOp, Act.eval]; go_simp) rfl⟩
                  | 18, hi =>
                    cases (show some _ = some o from hi)
                    have e105 : GrownW own u 15 base 66 32 (f.tmps.getD 105 undef) (L - k + 1) (hcells l2 ++ (ocells z).toList) (.slice (some ⟨g, 0, none⟩) (L - k) c) (X.heap.size) := depO (V := (VEa15 (some ⟨g, 0, none⟩) b n L k c N base (X.heap.size) z l2)) hdep 15 105 (by kernel_rfl) (by kernel_rfl)
                    have e107 : (f.tmps.getD 107 undef) = .pointer (some ⟨b, 2, none⟩) := depO (V := (VEa15 (some ⟨g, 0, none⟩) b n L k c N base (X.heap.size) z l2)) hdep 17 107 (by kernel_rfl) (by kernel_rfl)
                    clear hdep hsame hi hlate hfr hkeep
                    have hst := er_cellAt ((hkeep8 18 (.inl rfl) b XBL.out (ownBR_one _ _ _ _)).trans XBX.out) 2 _ rfl
                    have hfr2 : u.frozen? ⟨b, 2, none⟩ = false := by simp [World.frozen?, ((hkeep8 18 (.inl rfl) b XBL.out (ownBR_one _ _ _ _)).trans XBX.out)]
                    obtain ⟨a1, c1, ev, _, _, _⟩ := own_shape e105.1.1
                    rw [ev] at e105
                    have hob : own b = some 18 := (hsn.owns b XBL.out).trans (ownBR_one _ _ _ _)
                    have HQ : ∀ {v}, GrownW own u 15 base 66 32 v (L - k + 1) (hcells l2 ++ (ocells z).toList) (.slice (some ⟨g, 0, none⟩) (L - k) c) (X.heap.size) → GrownW own u 15 base 66 32 v (L - k + 1) (hcells l2 ++ (ocells z).toList) (.slice (some ⟨g, 0, none⟩) (L - k) c) (X.heap.size) := fun h => h
                    exact .inl ⟨wanted_none rfl, showsO_store_cell hsn hkeep8 rfl b 2 #[.bool true, .int .u64 (n : Int), .slice (some ⟨g, 0, none⟩) L c] 60 XBX.out (ownBR_one _ _ _ _) (.slice a1 (L - k + 1) c1) (by simp only [execOp, Act.eval]; go_simp) (fun h => ⟨_, h, grownW_setCell (HQ e105) b 2 _ hob (by decide)⟩)⟩
                  | n + 19, hi => exact absurd hi (by simp)
                · intro f u own hsame hsn hall
                  have q90 : f.tmps.getD 90 undef = .pointer (some ⟨b, 0, none⟩) := finO (V := (VEa15 (some ⟨g, 0, none⟩) b n L k c N base (X.heap.size) z l2)) hall 0 90 rfl
                  have q91 : f.tmps.getD 91 undef = .pointer (some ⟨b, 0, none⟩) := finO (V := (VEa15 (some ⟨g, 0, none⟩) b n L k c N base (X.heap.size) z l2)) hall 1 91 rfl
                  have q92 : f.tmps.getD 92 undef = .pointer (some ⟨b, 0, none⟩) := finO (V := (VEa15 (some ⟨g, 0, none⟩) b n L k c N base (X.heap.size) z l2)) hall 2 92 rfl
                  have q93 : f.tmps.getD 93 undef = .pointer (some ⟨b, 2, none⟩) := finO (V := (VEa15 (some ⟨g, 0, none⟩) b n L k c N base (X.heap.size) z l2)) hall 3 93 rfl
                  have q94 : f.tmps.getD 94 undef = .slice (some ⟨g, 0, none⟩) L c := finO (V := (VEa15 (some ⟨g, 0, none⟩) b n L k c N base (X.heap.size) z l2)) hall 4 94 rfl
                  have q95 : f.tmps.getD 95 undef = .pointer (some ⟨b, 0, none⟩) := finO (V := (VEa15 (some ⟨g, 0, none⟩) b n L k c N base (X.heap.size) z l2)) hall 5 95 rfl
                  have q96 : f.tmps.getD 96 undef = .pointer (some ⟨b, 0, none⟩) := finO (V := (VEa15 (some ⟨g, 0, none⟩) b n L k c N base (X.heap.size) z l2)) hall 6 96 rfl
                  have q97 : f.tmps.getD 97 undef = .pointer (some ⟨b, 2, none⟩) := finO (V := (VEa15 (some ⟨g, 0, none⟩) b n L k c N base (X.heap.size) z l2)) hall 7 97 rfl
                  have q98 : f.tmps.getD 98 undef = .slice (some ⟨g, 0, none⟩) L c := finO (V := (VEa15 (some ⟨g, 0, none⟩) b n L k c N base (X.heap.size) z l2)) hall 8 98 rfl
                  have q99 : f.tmps.getD 99 undef = .int .i64 (L : Int) := finO (V := (VEa15 (some ⟨g, 0, none⟩) b n L k c N base (X.heap.size) z l2)) hall 9 99 rfl
                  have q100 : f.tmps.getD 100 undef = .int .i64 (k : Int) := finO (V := (VEa15 (some ⟨g, 0, none⟩) b n L k c N base (X.heap.size) z l2)) hall 10 100 rfl
                  have q101 : f.tmps.getD 101 undef = .int .i64 ((L - k : Nat) : Int) := finO (V := (VEa15 (some ⟨g, 0, none⟩) b n L k c N base (X.heap.size) z l2)) hall 11 101 rfl
                  have q102 : f.tmps.getD 102 undef = .slice (some ⟨g, 0, none⟩) (L - k) c := finO (V := (VEa15 (some ⟨g, 0, none⟩) b n L k c N base (X.heap.size) z l2)) hall 12 102 rfl
                  have q103 : f.tmps.getD 103 undef = .agg (ocells (z)) := finO (V := (VEa15 (some ⟨g, 0, none⟩) b n L k c N base (X.heap.size) z l2)) hall 13 103 rfl
                  obtain ⟨g104, q104, o104, m104⟩ : BuiltV own u (f.tmps.getD 104 undef) 1 66 (ocells z) := finO (V := (VEa15 (some ⟨g, 0, none⟩) b n L k c N base (X.heap.size) z l2)) hall 14 104 rfl
                  have m105 := finO (V := (VEa15 (some ⟨g, 0, none⟩) b n L k c N base (X.heap.size) z l2)) hall 15 105 rfl
                  obtain ⟨r105, q105⟩ : ∃ r, f.tmps.getD 105 undef = r := ⟨_, rfl⟩
                  rw [q105] at m105
                  have q106 : f.tmps.getD 106 undef = .pointer (some ⟨b, 0, none⟩) := finO (V := (VEa15 (some ⟨g, 0, none⟩) b n L k c N base (X.heap.size) z l2)) hall 16 106 rfl
                  have q107 : f.tmps.getD 107 undef = .pointer (some ⟨b, 2, none⟩) := finO (V := (VEa15 (some ⟨g, 0, none⟩) b n L k c N base (X.heap.size) z l2)) hall 17 107 rfl
                  obtain ⟨s1, ⟨ob, hbb⟩, ⟨gw, gf⟩, gz⟩ := finN (V := (VEa15 (some ⟨g, 0, none⟩) b n L k c N base (X.heap.size) z l2)) hall 18 rfl
                  obtain rfl := frame_eq hsame [(90, .pointer (some ⟨b, 0, none⟩)), (91, .pointer (some ⟨b, 0, none⟩)), (92, .pointer (some ⟨b, 0, none⟩)), (93, .pointer (some ⟨b, 2, none⟩)), (94, .slice (some ⟨g, 0, none⟩) L c), (95, .pointer (some ⟨b, 0, none⟩)), (96, .pointer (some ⟨b, 0, none⟩)), (97, .pointer (some ⟨b, 2, none⟩)), (98, .slice (some ⟨g, 0, none⟩) L c), (99, .int .i64 (L : Int)), (100, .int .i64 (k : Int)), (101, .int .i64 ((L - k : Nat) : Int)), (102, .slice (some ⟨g, 0, none⟩) (L - k) c), (103, .agg (ocells (z))), (104, .slice (some ⟨g104, 0, none⟩) 1 1), (105, r105), (106, .pointer (some ⟨b, 0, none⟩)), (107, .pointer (some ⟨b, 2, none⟩))] (by kernel_rfl) ⟨q90, q91, q92, q93, q94, q95, q96, q97, q98, q99, q100, q101, q102, q103, q104, q105, q106, q107, trivial⟩
                  clear hall hsame q90 q91 q92 q93 q94 q95 q96 q97 q98 q99 q100 q101 q102 q103 q104 q105 q106 q107
                  simp only [List.foldl, List.setIfInBounds_toArray, List.set_cons_succ, List.set_cons_zero]
                  have kbr := hsn.keepBR
                  have nx2 := own_keep NX.out kbr (fun j hj e => by
                    have h1 := ownsRow_fresh NX.out j hj
                    have h2 := NB1.out
                    rcases e with e | e
                    · have := BL.out; omega
                    · have := RLT.out j e; omega)
                  have c1 := er_cellAt hbb 1 _ rfl
                  have f1 := er_frozen hbb 1
                  have SNE := Bx.mk (fun j (hj : s1.ownBlock = some j) => (show j ≠ b by
                    rintro rfl
                    rcases gf j hj with h1 | h1 <;> rw [ob] at h1 <;> cases h1))
                  have HBB := Bx.mk hbb; have GW := Bx.mk gw; have GZ := Bx.mk gz; have KBR := Bx.mk kbr; have NX2 := Bx.mk nx2
                  clear hbb gw gz kbr nx2 gf ob m105 hsn
                  go_wp2_with fail
                  go_ret2
                  refine ⟨_, rfl, ?_, ?_, s1, ⟨?_, HB.out.bb, ?_, lsB_mem HL.out HB.out.h32⟩, fun j hj => ?_⟩
                  · rw [← HK.out]
                    exact ownsRow_mono (ownsRow_setCell_ne NX2.out ⟨b, 1, none⟩ _ (fun j hj e => by have h1 := ownsRow_fresh NX.out j hj; have h2 := NB1.out; have h3 := BL.out; have h4 : j = b := e; omega)) (by rw [← HN.out]; exact Nat.le_of_lt NB1.out)
                  · refine (KX.out.trans (KBR.out.mono (S' := BuS b (.slice (some ⟨g, 0, none⟩) ls.length c)) (fun j _ h => h)) (fun _ _ h => h)).trans ((Keep.setCell u ⟨b, 1, none⟩ _).mono (S' := BuS b (.slice (some ⟨g, 0, none⟩) ls.length c)) (fun j _ h => .inl h)) (fun _ _ h => h)
                  · simp [World.setCell, Array.getElem?_modify, HBB.out]
                  · have e : lsB n ls p = l2 ++ [z] := by unfold lsB; rw [← HK.out, ← LL.out, ← HL2.out, ← HZ.out]
                    have e2 : (l2 ++ [z]).length = L - k + 1 := by rw [List.length_append, HL2.out, List.length_take, ← LL.out]; have := KL.out; simp; try omega
                    rw [e, e2, ← hcells_push]
                    exact ownsRow_setCell_ne GW.out ⟨b, 1, none⟩ _ (fun j hj e => SNE.out j hj e)
                  · rcases GZ.out j hj with h1 | h1
                    · exact .inl h1
                    · exact .inr (Nat.le_trans KX.out.size h1)
            · have HNE := Bx.mk hfu
              clear hk0 hL hfu
              go_upto_region 13 with (fail)
              refine wp_region_own4 (n := 116) VEa13mk (fun _ => none) (VEa13 b g c L k) (by kernel_rfl) (by kernel_rfl) rfl (fun _ _ => rfl) (fun j i hj _ => by cases hj) ?_ ?_ ?_
              · exact fun oi oj v own w own' w' hij _ h r => VEa13_mono b g c L k oi oj v own w own' w' hij h r
              · intro oi o hi f u own hsame hsn hfr hlate hkeep hdep
                have hb6 := hsn.below (B := wr.heap.size) (fun _ _ => rfl) (Nat.le_refl _)
                have hbN : Below N W u := BW.out.trans (hb6.mono (Nat.le_trans NW.out BW.out.size))
                match oi, hi with
                | 0, hi =>
                  cases (show some _ = some o from hi)
                  have e0 : f.tmps.getD 0 undef = .pointer (some ⟨b, 0, none⟩) := hsame.slot 0 (fun i o h => invB2_not 0 (by kernel_rfl) h)
                  clear hdep hsame hi hlate hfr hkeep
                  exact .inl ⟨wanted_none rfl, showsO_move hsn rfl _ rfl e0⟩
                | 1, hi =>
                  cases (show some _ = some o from hi)
                  have e77 : (f.tmps.getD 77 undef) = .pointer (some ⟨b, 0, none⟩) := depO (V := (VEa13 b g c L k)) hdep 0 77 (by kernel_rfl) (by kernel_rfl)
                  clear hdep hsame hi hlate hfr hkeep
                  exact .inl ⟨wanted_none rfl, showsO_pure hsn rfl (.pointer (some ⟨b, 0, none⟩)) (by simp only [execOp, Act.eval]; go_simp) rfl⟩
                | 2, hi =>
                  cases (show some _ = some o from hi)
                  have e78 : (f.tmps.getD 78 undef) = .pointer (some ⟨b, 0, none⟩) := depO (V := (VEa13 b g c L k)) hdep 1 78 (by kernel_rfl) (by kernel_rfl)
                  clear hdep hsame hi hlate hfr hkeep
                  exact .inl ⟨wanted_none rfl, showsO_pure hsn rfl (.pointer (some ⟨b, 2, none⟩)) (by simp only [execOp, Act.eval]; go_simp) rfl⟩
                | 3, hi =>
                  cases (show some _ = some o from hi)
                  have e79 : (f.tmps.getD 79 undef) = .pointer (some ⟨b, 2, none⟩) := depO (V := (VEa13 b g c L k)) hdep 2 79 (by kernel_rfl) (by kernel_rfl)
                  clear hdep hsame hi hlate hfr hkeep
                  have c2 := er_cellAt (XB.out u hbN) 2 _ rfl
                  rw [← LL.out] at c2
                  exact .inl ⟨wanted_none rfl, showsO_pure hsn rfl (.slice (some ⟨g, 0, none⟩) L c) (by simp only [execOp, Act.eval]; go_simp) rfl⟩
                | 4, hi =>
                  cases (show some _ = some o from hi)
                  have e0 : f.tmps.getD 0 undef = .pointer (some ⟨b, 0, none⟩) := hsame.slot 0 (fun i o h => invB2_not 0 (by kernel_rfl) h)
                  clear hdep hsame hi hlate hfr hkeep
                  exact .inl ⟨wanted_none rfl, showsO_move hsn rfl _ rfl e0⟩
                | 5, hi =>
                  cases (show some _ = some o from hi)
                  have e81 : (f.tmps.getD 81 undef) = .pointer (some ⟨b, 0, none⟩) := depO (V := (VEa13 b g c L k)) hdep 4 81 (by kernel_rfl) (by kernel_rfl)
                  clear hdep hsame hi hlate hfr hkeep
                  exact .inl ⟨wanted_none rfl, showsO_pure hsn rfl (.pointer (some ⟨b, 0, none⟩)) (by simp only [execOp, Act.eval]; go_simp) rfl⟩
                | 6, hi =>
                  cases (show some _ = some o from hi)
                  have e82 : (f.tmps.getD 82 undef) = .pointer (some ⟨b, 0, none⟩) := depO (V := (VEa13 b g c L k)) hdep 5 82 (by kernel_rfl) (by kernel_rfl)
                  clear hdep hsame hi hlate hfr hkeep
                  exact .inl ⟨wanted_none rfl, showsO_pure hsn rfl (.pointer (some ⟨b, 2, none⟩)) (by simp only [execOp, Act.eval]; go_simp) rfl⟩
                | 7, hi =>
                  cases (show some _ = some o from hi)
                  have e83 : (f.tmps.getD 83 undef) = .pointer (some ⟨b, 2, none⟩) := depO (V := (VEa13 b g c L k)) hdep 6 83 (by kernel_rfl) (by kernel_rfl)
                  clear hdep hsame hi hlate hfr hkeep
                  have c2 := er_cellAt (XB.out u hbN) 2 _ rfl
                  rw [← LL.out] at c2
                  exact .inl ⟨wanted_none rfl, showsO_pure hsn rfl (.slice (some ⟨g, 0, none⟩) L c) (by simp only [execOp, Act.eval]; go_simp) rfl⟩
                | 8, hi =>
                  cases (show some _ = some o from hi)
                  have e84 : (f.tmps.getD 84 undef) = .slice (some ⟨g, 0, none⟩) L c := depO (V := (VEa13 b g c L k)) hdep 7 84 (by kernel_rfl) (by kernel_rfl)
                  clear hdep hsame hi hlate hfr hkeep
                  exact .inl ⟨wanted_none rfl, showsO_pure hsn rfl (.int .i64 (L : Int)) (by simp only [execOp, Act.eval]; go_simp) rfl⟩
                | 9, hi =>
                  cases (show some _ = some o from hi)
                  have e6 : f.tmps.getD 6 undef = .int .i64 (k : Int) := hsame.slot 6 (fun i o h => invB2_not 6 (by kernel_rfl) h)
                  clear hdep hsame hi hlate hfr hkeep
                  exact .inl ⟨wanted_none rfl, showsO_move hsn rfl _ rfl e6⟩
                | 10, hi =>
                  cases (show some _ = some o from hi)
                  have e85 : (f.tmps.getD 85 undef) = .int .i64 (L : Int) := depO (V := (VEa13 b g c L k)) hdep 8 85 (by kernel_rfl) (by kernel_rfl)
                  have e86 : (f.tmps.getD 86 undef) = .int .i64 (k : Int) := depO (V := (VEa13 b g c L k)) hdep 9 86 (by kernel_rfl) (by kernel_rfl)
                  clear hdep hsame hi hlate hfr hkeep
                  have hl := KL.out
                  have hm := L64.out
                  exact .inl ⟨wanted_none rfl, showsO_pure hsn rfl (.int .i64 ((L - k : Nat) : Int)) (by simp only [execOp, Act.eval]; go_simp; simp [IntKind.wrap, IntKind.bits, IntKind.signed]; omega) rfl⟩
                | 11, hi =>
                  cases (show some _ = some o from hi)
                  have e80 : (f.tmps.getD 80 undef) = .slice (some ⟨g, 0, none⟩) L c := depO (V := (VEa13 b g c L k)) hdep 3 80 (by kernel_rfl) (by kernel_rfl)
                  have e87 : (f.tmps.getD 87 undef) = .int .i64 ((L - k : Nat) : Int) := depO (V := (VEa13 b g c L k)) hdep 10 87 (by kernel_rfl) (by kernel_rfl)
                  clear hdep hsame hi hlate hfr hkeep
                  have hl := KL.out
                  have hm := L64.out
                  have hc := LC.out
                  have hc2 := LC2.out
                  have hle : L - k ≤ L := by omega
                  have hle2 : L - (L - k) = k := by omega
                  have hle3 : L - k ≤ c := by omega
                  have hne := HNE.out
                  exact .inl ⟨wanted_none rfl, showsO_pure hsn rfl (.slice (some ⟨g, (L - k) * 32, none⟩) k (c - (L - k))) (by simp only [execOp, Act.eval]; go_simp) rfl⟩
                | 12, hi =>
                  cases (show some _ = some o from hi)
                  have e88 : (f.tmps.getD 88 undef) = .slice (some ⟨g, (L - k) * 32, none⟩) k (c - (L - k)) := depO (V := (VEa13 b g c L k)) hdep 11 88 (by kernel_rfl) (by kernel_rfl)
                  clear hdep hsame hi hlate hfr hkeep
                  exact .inl ⟨wanted_none rfl, showsO_assign hsn rfl _ rfl e88⟩
                | n + 13, hi => exact absurd hi (by simp)
              · intro f u own hsame hsn hall
                have q77 : f.tmps.getD 77 undef = .pointer (some ⟨b, 0, none⟩) := finO (V := (VEa13 b g c L k)) hall 0 77 rfl
                have q78 : f.tmps.getD 78 undef = .pointer (some ⟨b, 0, none⟩) := finO (V := (VEa13 b g c L k)) hall 1 78 rfl
                have q79 : f.tmps.getD 79 undef = .pointer (some ⟨b, 2, none⟩) := finO (V := (VEa13 b g c L k)) hall 2 79 rfl
                have q80 : f.tmps.getD 80 undef = .slice (some ⟨g, 0, none⟩) L c := finO (V := (VEa13 b g c L k)) hall 3 80 rfl
                have q81 : f.tmps.getD 81 undef = .pointer (some ⟨b, 0, none⟩) := finO (V := (VEa13 b g c L k)) hall 4 81 rfl
                have q82 : f.tmps.getD 82 undef = .pointer (some ⟨b, 0, none⟩) := finO (V := (VEa13 b g c L k)) hall 5 82 rfl
                have q83 : f.tmps.getD 83 undef = .pointer (some ⟨b, 2, none⟩) := finO (V := (VEa13 b g c L k)) hall 6 83 rfl
                have q84 : f.tmps.getD 84 undef = .slice (some ⟨g, 0, none⟩) L c := finO (V := (VEa13 b g c L k)) hall 7 84 rfl
                have q85 : f.tmps.getD 85 undef = .int .i64 (L : Int) := finO (V := (VEa13 b g c L k)) hall 8 85 rfl
                have q86 : f.tmps.getD 86 undef = .int .i64 (k : Int) := finO (V := (VEa13 b g c L k)) hall 9 86 rfl
                have q87 : f.tmps.getD 87 undef = .int .i64 ((L - k : Nat) : Int) := finO (V := (VEa13 b g c L k)) hall 10 87 rfl
                have q88 : f.tmps.getD 88 undef = .slice (some ⟨g, (L - k) * 32, none⟩) k (c - (L - k)) := finO (V := (VEa13 b g c L k)) hall 11 88 rfl
                have q9 : f.tmps.getD 9 undef = .slice (some ⟨g, (L - k) * 32, none⟩) k (c - (L - k)) := finO (V := (VEa13 b g c L k)) hall 12 9 rfl
                obtain rfl := frame_eq hsame [(77, .pointer (some ⟨b, 0, none⟩)), (78, .pointer (some ⟨b, 0, none⟩)), (79, .pointer (some ⟨b, 2, none⟩)), (80, .slice (some ⟨g, 0, none⟩) L c), (81, .pointer (some ⟨b, 0, none⟩)), (82, .pointer (some ⟨b, 0, none⟩)), (83, .pointer (some ⟨b, 2, none⟩)), (84, .slice (some ⟨g, 0, none⟩) L c), (85, .int .i64 (L : Int)), (86, .int .i64 (k : Int)), (87, .int .i64 ((L - k : Nat) : Int)), (88, .slice (some ⟨g, (L - k) * 32, none⟩) k (c - (L - k))), (9, .slice (some ⟨g, (L - k) * 32, none⟩) k (c - (L - k)))] (by kernel_rfl) ⟨q77, q78, q79, q80, q81, q82, q83, q84, q85, q86, q87, q88, q9, trivial⟩
                clear hall hsame q77 q78 q79 q80 q81 q82 q83 q84 q85 q86 q87 q88 q9
                simp only [List.foldl, List.setIfInBounds_toArray, List.set_cons_succ, List.set_cons_zero]
                have b6 := hsn.below (B := wr.heap.size) (fun _ _ => rfl) (Nat.le_refl _)
                have bN : Below N W u := BW.out.trans (b6.mono (Nat.le_trans NW.out BW.out.size))
                have bW : Below w.heap.size w u := by rw [← HN.out]; exact KB.out.trans bN
                have hBu := HB.out.below bW
                have hou := hBu.own
                have elk : L - k = ls.length := by have := K0.out; have := LL.out; omega
                have hcl : ∀ ty c9, (Builtin.clear_ #[51] ty #[.slice (some ⟨g, (L - k) * 32, none⟩) k c9]).run Tryz.prog u = .ok (.tuple #[]) u := fun ty c9 => clear_none u ty _ k c9 K0.out
                have y1 := hBu.hb
                have yN := (b6.block N (Array.getElem?_eq_some_iff.1 YN.out).1).trans YN.out
                have nx := ownsRow_keep' HO.out fun j hj => b6.block j (ownsRow_lt HO.out j hj)
                have kx := Keep.of_below bW (BuS b (.slice (some ⟨g, 0, none⟩) ls.length c))
                rw [← LL.out] at y1
                have x3 : u.ownsRow base 66 32 (.slice (some ⟨g, 0, none⟩) (L - k) c) (L - k) (hcells (ls.take (L - k))) := by rw [elk, List.take_length]; exact hou
                clear hou hBu bW b6 hsn elk
                go_upto_region 15 with (simp only [hcl])
                clear hcl bN
                obtain ⟨X, hX⟩ : ∃ X, X = u := ⟨_, rfl⟩
                rw [← hX] at x3 y1 yN nx kx ⊢
                clear hX
                have XBX := Bx.mk y1; have YX0 := Bx.mk yN; have OX0 := Bx.mk x3; have NX := Bx.mk nx; have KX := Bx.mk kx
                clear y1 yN x3 nx kx
                obtain ⟨z, hz⟩ : ∃ z, z = hkB ls p k := ⟨_, rfl⟩
                have YX := Bx.mk (show X.heap[N]? = some (.cells (ocells z) 66 (0, 0)) by rw [hz]; exact YX0.out)
                have ZL := Bx.mk (show z.length = 32 by rw [hz]; exact hkB_length HL.out k); have HZ := Bx.mk hz
                obtain ⟨l2, hl2⟩ : ∃ l2, l2 = ls.take (L - k) := ⟨_, rfl⟩
                have OX := Bx.mk (show X.ownsRow base 66 32 (.slice (some ⟨g, 0, none⟩) (L - k) c) (L - k) (hcells l2) by rw [hl2]; exact OX0.out); have HL2 := Bx.mk hl2
                have RNB := Bx.mk (fun j (hj : (Value.slice (some ⟨g, 0, none⟩) (L - k) c).ownBlock = some j) => HB.out.ne j hj)
                have RLT := Bx.mk (fun j (hj : (Value.slice (some ⟨g, 0, none⟩) (L - k) c).ownBlock = some j) => (show j < N by rw [HN.out]; exact HB.out.lt j (.inr hj)))
                have XBL := Bx.mk (Array.getElem?_eq_some_iff.1 XBX.out).1; have NXL := Bx.mk (Array.getElem?_eq_some_iff.1 YX.out).1
                have NON := Bx.mk (ownBR_none (i := 18) (j := 15) (fun e => Nat.lt_irrefl _ (RLT.out N e)) (Nat.ne_of_gt BL.out))
                have HTP := Bx.mk (fun k' (hk' : X.heap.size ≤ k') => ownBR_none (b := b) (v := .slice (some ⟨g, 0, none⟩) (L - k) c) (i := 18) (j := 15) (k := k') (fun e => by have := RLT.out _ e; have := NXL.out; omega) (by have := XBL.out; omega))
                obtain ⟨j0, hj0, hy0, hy1, hy2⟩ := info_parts infoH
                have RJ := Bx.mk (And.intro hj0 (And.intro hy0 (And.intro hy1 hy2)))
                have Q1 := Bx.mk (show L - k + 1 ≤ maxLen by have := L64.out; unfold maxLen; omega); have Q2 := Bx.mk (show (L - k + 1) * 32 ≤ 140737488355328 by have := L64.out; omega)
                have QB := Bx.mk (show base ≤ X.heap.size from Nat.le_trans HBS.out (by have := NXL.out; have := HN.out; omega))
                clear hz hl2 hj0 hy0 hy1 hy2
                refine wp_region_own8 (n := 116) VEa15mk (ownBR b (.slice (some ⟨g, 0, none⟩) (L - k) c) 18 15) (VEa15 (some ⟨g, 0, none⟩) b n L k c N base (X.heap.size) z l2) (by kernel_rfl) (by kernel_rfl) rfl (fun k hk => HTP.out k hk) (fun j i hj _ => by cases hj) ?_ ?_ ?_
                · exact fun oi oj v own w own' w' hij hnd h r => VEa15_mono (some ⟨g, 0, none⟩) b n L k c N base (X.heap.size) z l2 oi oj v own w own' w' hij (by rintro rfl rfl; exact Bool.noConfusion (hnd.symm.trans (show depB _ 18 15 = true by kernel_rfl))) h r
                · intro oi o hi f u own hsame hsn hfr hlate hkeep8 hdep
                  have hkeep := hkeep8 _ (.inl rfl)
                  match oi, hi with
                  | 0, hi =>
                    cases (show some _ = some o from hi)
                    have e0 : f.tmps.getD 0 undef = .pointer (some ⟨b, 0, none⟩) := hsame.slot 0 (fun i o h => invB2_not 0 (by kernel_rfl) h)
                    clear hdep hsame hi hlate hfr hkeep
                    exact .inl ⟨wanted_none rfl, showsO_move hsn rfl _ rfl e0⟩
                  | 1, hi =>
                    cases (show some _ = some o from hi)
                    have e0 : f.tmps.getD 0 undef = .pointer (some ⟨b, 0, none⟩) := hsame.slot 0 (fun i o h => invB2_not 0 (by kernel_rfl) h)
                    clear hdep hsame hi hlate hfr hkeep
                    exact .inl ⟨wanted_none rfl, showsO_move hsn rfl _ rfl e0⟩
                  | 2, hi =>
                    cases (show some _ = some o from hi)
                    have e91 : (f.tmps.getD 91 undef) = .pointer (some ⟨b, 0, none⟩) := depO (V := (VEa15 (some ⟨g, 0, none⟩) b n L k c N base (X.heap.size) z l2)) hdep 1 91 (by kernel_rfl) (by kernel_rfl)
                    clear hdep hsame hi hlate hfr hkeep
                    exact .inl ⟨wanted_none rfl, showsO_pure hsn rfl (.pointer (some ⟨b, 0, none⟩)) (by simp only [execOp, Act.eval]; go_simp) rfl⟩
                  | 3, hi =>
                    cases (show some _ = some o from hi)
                    have e92 : (f.tmps.getD 92 undef) = .pointer (some ⟨b, 0, none⟩) := depO (V := (VEa15 (some ⟨g, 0, none⟩) b n L k c N base (X.heap.size) z l2)) hdep 2 92 (by kernel_rfl) (by kernel_rfl)
                    clear hdep hsame hi hlate hfr hkeep
                    exact .inl ⟨wanted_none rfl, showsO_pure hsn rfl (.pointer (some ⟨b, 2, none⟩)) (by simp only [execOp, Act.eval]; go_simp) rfl⟩
                  | 4, hi =>
                    cases (show some _ = some o from hi)
                    have e93 : (f.tmps.getD 93 undef) = .pointer (some ⟨b, 2, none⟩) := depO (V := (VEa15 (some ⟨g, 0, none⟩) b n L k c N base (X.heap.size) z l2)) hdep 3 93 (by kernel_rfl) (by kernel_rfl)
                    clear hdep hsame hi hlate hfr hkeep
                    have c2 := er_cellAt ((hkeep8 18 (.inr (by kernel_rfl)) b XBL.out (ownBR_one _ _ _ _)).trans XBX.out) 2 _ rfl
                    exact .inl ⟨wanted_none rfl, showsO_pure hsn rfl (.slice (some ⟨g, 0, none⟩) L c) (by simp only [execOp, Act.eval]; go_simp) rfl⟩
                  | 5, hi =>
                    cases (show some _ = some o from hi)
                    have e0 : f.tmps.getD 0 undef = .pointer (some ⟨b, 0, none⟩) := hsame.slot 0 (fun i o h => invB2_not 0 (by kernel_rfl) h)
                    clear hdep hsame hi hlate hfr hkeep
                    exact .inl ⟨wanted_none rfl, showsO_move hsn rfl _ rfl e0⟩
                  | 6, hi =>
                    cases (show some _ = some o from hi)
                    have e95 : (f.tmps.getD 95 undef) = .pointer (some ⟨b, 0, none⟩) := depO (V := (VEa15 (some ⟨g, 0, none⟩) b n L k c N base (X.heap.size) z l2)) hdep 5 95 (by kernel_rfl) (by kernel_rfl)
                    clear hdep hsame hi hlate hfr hkeep
                    exact .inl ⟨wanted_none rfl, showsO_pure hsn rfl (.pointer (some ⟨b, 0, none⟩)) (by simp only [execOp, Act.eval]; go_simp) rfl⟩
                  | 7, hi =>
                    cases (show some _ = some o from hi)
                    have e96 : (f.tmps.getD 96 undef) = .pointer (some ⟨b, 0, none⟩) := depO (V := (VEa15 (some ⟨g, 0, none⟩) b n L k c N base (X.heap.size) z l2)) hdep 6 96 (by kernel_rfl) (by kernel_rfl)
                    clear hdep hsame hi hlate hfr hkeep
                    exact .inl ⟨wanted_none rfl, showsO_pure hsn rfl (.pointer (some ⟨b, 2, none⟩)) (by simp only [execOp, Act.eval]; go_simp) rfl⟩
                  | 8, hi =>
                    cases (show some _ = some o from hi)
                    have e97 : (f.tmps.getD 97 undef) = .pointer (some ⟨b, 2, none⟩) := depO (V := (VEa15 (some ⟨g, 0, none⟩) b n L k c N base (X.heap.size) z l2)) hdep 7 97 (by kernel_rfl) (by kernel_rfl)
                    clear hdep hsame hi hlate hfr hkeep
                    have c2 := er_cellAt ((hkeep8 18 (.inr (by kernel_rfl)) b XBL.out (ownBR_one _ _ _ _)).trans XBX.out) 2 _ rfl
                    exact .inl ⟨wanted_none rfl, showsO_pure hsn rfl (.slice (some ⟨g, 0, none⟩) L c) (by simp only [execOp, Act.eval]; go_simp) rfl⟩
                  | 9, hi =>
                    cases (show some _ = some o from hi)
                    have e98 : (f.tmps.getD 98 undef) = .slice (some ⟨g, 0, none⟩) L c := depO (V := (VEa15 (some ⟨g, 0, none⟩) b n L k c N base (X.heap.size) z l2)) hdep 8 98 (by kernel_rfl) (by kernel_rfl)
                    clear hdep hsame hi hlate hfr hkeep
                    exact .inl ⟨wanted_none rfl, showsO_pure hsn rfl (.int .i64 (L : Int)) (by simp only [execOp, Act.eval]; go_simp) rfl⟩
                  | 10, hi =>
                    cases (show some _ = some o from hi)
                    have e6 : f.tmps.getD 6 undef = .int .i64 (k : Int) := hsame.slot 6 (fun i o h => invB2_not 6 (by kernel_rfl) h)
                    clear hdep hsame hi hlate hfr hkeep
                    exact .inl ⟨wanted_none rfl, showsO_move hsn rfl _ rfl e6⟩
                  | 11, hi =>
                    cases (show some _ = some o from hi)
                    have e99 : (f.tmps.getD 99 undef) = .int .i64 (L : Int) := depO (V := (VEa15 (some ⟨g, 0, none⟩) b n L k c N base (X.heap.size) z l2)) hdep 9 99 (by kernel_rfl) (by kernel_rfl)
                    have e100 : (f.tmps.getD 100 undef) = .int .i64 (k : Int) := depO (V := (VEa15 (some ⟨g, 0, none⟩) b n L k c N base (X.heap.size) z l2)) hdep 10 100 (by kernel_rfl) (by kernel_rfl)
                    clear hdep hsame hi hlate hfr hkeep
                    have hl := KL.out
                    have hm := L64.out
                    exact .inl ⟨wanted_none rfl, showsO_pure hsn rfl (.int .i64 ((L - k : Nat) : Int)) (by simp only [execOp, Act.eval]; go_simp; simp [IntKind.wrap, IntKind.bits, IntKind.signed]; omega) rfl⟩
                  | 12, hi =>
                    cases (show some _ = some o from hi)
                    have e94 : (f.tmps.getD 94 undef) = .slice (some ⟨g, 0, none⟩) L c := depO (V := (VEa15 (some ⟨g, 0, none⟩) b n L k c N base (X.heap.size) z l2)) hdep 4 94 (by kernel_rfl) (by kernel_rfl)
                    have e101 : (f.tmps.getD 101 undef) = .int .i64 ((L - k : Nat) : Int) := depO (V := (VEa15 (some ⟨g, 0, none⟩) b n L k c N base (X.heap.size) z l2)) hdep 11 101 (by kernel_rfl) (by kernel_rfl)
                    clear hdep hsame hi hlate hfr hkeep
                    have hl := KL.out
                    have hm := L64.out
                    have hc := LC.out
                    have hc2 := LC2.out
                    have hle3 : L - k ≤ c := by omega
                    exact .inl ⟨wanted_none rfl, showsO_pure hsn rfl (.slice (some ⟨g, 0, none⟩) (L - k) c) (by simp only [execOp, Act.eval]; go_simp) rfl⟩
                  | 13, hi =>
                    cases (show some _ = some o from hi)
                    have e3 : f.tmps.getD 3 undef = .pointer (some ⟨N, 0, none⟩) := hsame.slot 3 (fun i o h => invB2_not 3 (by kernel_rfl) h)
                    clear hdep hsame hi hlate hfr hkeep
                    exact .inl ⟨wanted_none rfl, showsO_row hsn rfl 66 (.tmp 3) rfl N e3 (ocells z) ((hsn.keep N NXL.out NON.out).trans YX.out) underH rfl (hszL ZL.out) rfl⟩
                  | 14, hi =>
                    cases (show some _ = some o from hi)
                    have e103 : (f.tmps.getD 103 undef) = .agg (ocells (z)) := depO (V := (VEa15 (some ⟨g, 0, none⟩) b n L k c N base (X.heap.size) z l2)) hdep 13 103 (by kernel_rfl) (by kernel_rfl)
                    clear hdep hsame hi hlate hfr hkeep
                    exact .inl ⟨wanted_none rfl, showsO_built hsn rfl 1 66 (ocells z) (run_bs_one u (.tmp 103) rfl z ZL.out e103) (fun h => h)⟩
                  | 15, hi =>
                    cases (show some _ = some o from hi)
                    have e102 : (f.tmps.getD 102 undef) = .slice (some ⟨g, 0, none⟩) (L - k) c := depO (V := (VEa15 (some ⟨g, 0, none⟩) b n L k c N base (X.heap.size) z l2)) hdep 12 102 (by kernel_rfl) (by kernel_rfl)
                    have e104 : BuiltV own u (f.tmps.getD 104 undef) 1 66 (ocells z) := depO (V := (VEa15 (some ⟨g, 0, none⟩) b n L k c N base (X.heap.size) z l2)) hdep 14 104 (by kernel_rfl) (by kernel_rfl)
                    clear hdep hsame hi hlate hfr
                    exact .inl ⟨wanted_none rfl, showsO_appendW hsn hkeep rfl (.tmp 102) (.tmp 104) 51 rfl base 66 j0 (.agg zeros32) 32 32 underHs RJ.out.1 RJ.out.2.1 RJ.out.2.2.1 RJ.out.2.2.2 rfl (by decide) (.slice (some ⟨g, 0, none⟩) (L - k) c) (L - k) (hcells l2) e102 OX.out (fun j hj => ownBR_two hj (RNB.out j hj)) e104 (by rw [ocells_size, ZL.out]) (ocells_one _) Q1.out Q2.out QB.out (fun _ _ _ h => h)⟩
                  | 16, hi =>
                    cases (show some _ = some o from hi)
                    have e90 : (f.tmps.getD 90 undef) = .pointer (some ⟨b, 0, none⟩) := depO (V := (VEa15 (some ⟨g, 0, none⟩) b n L k c N base (X.heap.size) z l2)) hdep 0 90 (by kernel_rfl) (by kernel_rfl)
                    clear hdep hsame hi hlate hfr hkeep
                    exact .inl ⟨wanted_none rfl, showsO_pure hsn rfl (.pointer (some ⟨b, 0, none⟩)) (by simp only [execOp, Act.eval]; go_simp) rfl⟩
                  | 17, hi =>
                    cases (show some _ = some o from hi)
                    have e106 : (f.tmps.getD 106 undef) = .pointer (some ⟨b, 0, none⟩) := depO (V := (VEa15 (some ⟨g, 0, none⟩) b n L k c N base (X.heap.size) z l2)) hdep 16 106 (by kernel_rfl) (by kernel_rfl)
                    clear hdep hsame hi hlate hfr hkeep
                    exact .inl ⟨wanted_none rfl, showsO_pure hsn rfl (.pointer (some ⟨b, 2, none⟩)) (by simp only [execOp, Act.eval]; go_simp) rfl⟩
                  | 18, hi =>
                    cases (show some _ = some o from hi)
                    have e105 : GrownW own u 15 base 66 32 (f.tmps.getD 105 undef) (L - k + 1) (hcells l2 ++ (ocells z).toList) (.slice (some ⟨g, 0, none⟩) (L - k) c) (X.heap.size) := depO (V := (VEa15 (some ⟨g, 0, none⟩) b n L k c N base (X.heap.size) z l2)) hdep 15 105 (by kernel_rfl) (by kernel_rfl)
                    have e107 : (f.tmps.getD 107 undef) = .pointer (some ⟨b, 2, none⟩) := depO (V := (VEa15 (some ⟨g, 0, none⟩) b n L k c N base (X.heap.size) z l2)) hdep 17 107 (by kernel_rfl) (by kernel_rfl)
                    clear hdep hsame hi hlate hfr hkeep
                    have hst := er_cellAt ((hkeep8 18 (.inl rfl) b XBL.out (ownBR_one _ _ _ _)).trans XBX.out) 2 _ rfl
                    have hfr2 : u.frozen? ⟨b, 2, none⟩ = false := by simp [World.frozen?, ((hkeep8 18 (.inl rfl) b XBL.out (ownBR_one _ _ _ _)).trans XBX.out)]
                    obtain ⟨a1, c1, ev, _, _, _⟩ := own_shape e105.1.1
                    rw [ev] at e105
                    have hob : own b = some 18 := (hsn.owns b XBL.out).trans (ownBR_one _ _ _ _)
                    have HQ : ∀ {v}, GrownW own u 15 base 66 32 v (L - k + 1) (hcells l2 ++ (ocells z).toList) (.slice (some ⟨g, 0, none⟩) (L - k) c) (X.heap.size) → GrownW own u 15 base 66 32 v (L - k + 1) (hcells l2 ++ (ocells z).toList) (.slice (some ⟨g, 0, none⟩) (L - k) c) (X.heap.size) := fun h => h
                    exact .inl ⟨wanted_none rfl, showsO_store_cell hsn hkeep8 rfl b 2 #[.bool true, .int .u64 (n : Int), .slice (some ⟨g, 0, none⟩) L c] 60 XBX.out (ownBR_one _ _ _ _) (.slice a1 (L - k + 1) c1) (by simp only [execOp, Act.eval]; go_simp) (fun h => ⟨_, h, grownW_setCell (HQ e105) b 2 _ hob (by decide)⟩)⟩
                  | n + 19, hi => exact absurd hi (by simp)
                · intro f u own hsame hsn hall
                  have q90 : f.tmps.getD 90 undef = .pointer (some ⟨b, 0, none⟩) := finO (V := (VEa15 (some ⟨g, 0, none⟩) b n L k c N base (X.heap.size) z l2)) hall 0 90 rfl
                  have q91 : f.tmps.getD 91 undef = .pointer (some ⟨b, 0, none⟩) := finO (V := (VEa15 (some ⟨g, 0, none⟩) b n L k c N base (X.heap.size) z l2)) hall 1 91 rfl
                  have q92 : f.tmps.getD 92 undef = .pointer (some ⟨b, 0, none⟩) := finO (V := (VEa15 (some ⟨g, 0, none⟩) b n L k c N base (X.heap.size) z l2)) hall 2 92 rfl
                  have q93 : f.tmps.getD 93 undef = .pointer (some ⟨b, 2, none⟩) := finO (V := (VEa15 (some ⟨g, 0, none⟩) b n L k c N base (X.heap.size) z l2)) hall 3 93 rfl
                  have q94 : f.tmps.getD 94 undef = .slice (some ⟨g, 0, none⟩) L c := finO (V := (VEa15 (some ⟨g, 0, none⟩) b n L k c N base (X.heap.size) z l2)) hall 4 94 rfl
                  have q95 : f.tmps.getD 95 undef = .pointer (some ⟨b, 0, none⟩) := finO (V := (VEa15 (some ⟨g, 0, none⟩) b n L k c N base (X.heap.size) z l2)) hall 5 95 rfl
                  have q96 : f.tmps.getD 96 undef = .pointer (some ⟨b, 0, none⟩) := finO (V := (VEa15 (some ⟨g, 0, none⟩) b n L k c N base (X.heap.size) z l2)) hall 6 96 rfl
                  have q97 : f.tmps.getD 97 undef = .pointer (some ⟨b, 2, none⟩) := finO (V := (VEa15 (some ⟨g, 0, none⟩) b n L k c N base (X.heap.size) z l2)) hall 7 97 rfl
                  have q98 : f.tmps.getD 98 undef = .slice (some ⟨g, 0, none⟩) L c := finO (V := (VEa15 (some ⟨g, 0, none⟩) b n L k c N base (X.heap.size) z l2)) hall 8 98 rfl
                  have q99 : f.tmps.getD 99 undef = .int .i64 (L : Int) := finO (V := (VEa15 (some ⟨g, 0, none⟩) b n L k c N base (X.heap.size) z l2)) hall 9 99 rfl
                  have q100 : f.tmps.getD 100 undef = .int .i64 (k : Int) := finO (V := (VEa15 (some ⟨g, 0, none⟩) b n L k c N base (X.heap.size) z l2)) hall 10 100 rfl
                  have q101 : f.tmps.getD 101 undef = .int .i64 ((L - k : Nat) : Int) := finO (V := (VEa15 (some ⟨g, 0, none⟩) b n L k c N base (X.heap.size) z l2)) hall 11 101 rfl
                  have q102 : f.tmps.getD 102 undef = .slice (some ⟨g, 0, none⟩) (L - k) c := finO (V := (VEa15 (some ⟨g, 0, none⟩) b n L k c N base (X.heap.size) z l2)) hall 12 102 rfl
                  have q103 : f.tmps.getD 103 undef = .agg (ocells (z)) := finO (V := (VEa15 (some ⟨g, 0, none⟩) b n L k c N base (X.heap.size) z l2)) hall 13 103 rfl
                  obtain ⟨g104, q104, o104, m104⟩ : BuiltV own u (f.tmps.getD 104 undef) 1 66 (ocells z) := finO (V := (VEa15 (some ⟨g, 0, none⟩) b n L k c N base (X.heap.size) z l2)) hall 14 104 rfl
                  have m105 := finO (V := (VEa15 (some ⟨g, 0, none⟩) b n L k c N base (X.heap.size) z l2)) hall 15 105 rfl
                  obtain ⟨r105, q105⟩ : ∃ r, f.tmps.getD 105 undef = r := ⟨_, rfl⟩
                  rw [q105] at m105
                  have q106 : f.tmps.getD 106 undef = .pointer (some ⟨b, 0, none⟩) := finO (V := (VEa15 (some ⟨g, 0, none⟩) b n L k c N base (X.heap.size) z l2)) hall 16 106 rfl
                  have q107 : f.tmps.getD 107 undef = .pointer (some ⟨b, 2, none⟩) := finO (V := (VEa15 (some ⟨g, 0, none⟩) b n L k c N base (X.heap.size) z l2)) hall 17 107 rfl
                  obtain ⟨s1, ⟨ob, hbb⟩, ⟨gw, gf⟩, gz⟩ := finN (V := (VEa15 (some ⟨g, 0, none⟩) b n L k c N base (X.heap.size) z l2)) hall 18 rfl
                  obtain rfl := frame_eq hsame [(90, .pointer (some ⟨b, 0, none⟩)), (91, .pointer (some ⟨b, 0, none⟩)), (92, .pointer (some ⟨b, 0, none⟩)), (93, .pointer (some ⟨b, 2, none⟩)), (94, .slice (some ⟨g, 0, none⟩) L c), (95, .pointer (some ⟨b, 0, none⟩)), (96, .pointer (some ⟨b, 0, none⟩)), (97, .pointer (some ⟨b, 2, none⟩)), (98, .slice (some ⟨g, 0, none⟩) L c), (99, .int .i64 (L : Int)), (100, .int .i64 (k : Int)), (101, .int .i64 ((L - k : Nat) : Int)), (102, .slice (some ⟨g, 0, none⟩) (L - k) c), (103, .agg (ocells (z))), (104, .slice (some ⟨g104, 0, none⟩) 1 1), (105, r105), (106, .pointer (some ⟨b, 0, none⟩)), (107, .pointer (some ⟨b, 2, none⟩))] (by kernel_rfl) ⟨q90, q91, q92, q93, q94, q95, q96, q97, q98, q99, q100, q101, q102, q103, q104, q105, q106, q107, trivial⟩
                  clear hall hsame q90 q91 q92 q93 q94 q95 q96 q97 q98 q99 q100 q101 q102 q103 q104 q105 q106 q107
                  simp only [List.foldl, List.setIfInBounds_toArray, List.set_cons_succ, List.set_cons_zero]
                  have kbr := hsn.keepBR
                  have nx2 := own_keep NX.out kbr (fun j hj e => by
                    have h1 := ownsRow_fresh NX.out j hj
                    have h2 := NB1.out
                    rcases e with e | e
                    · have := BL.out; omega
                    · have := RLT.out j e; omega)
                  have c1 := er_cellAt hbb 1 _ rfl
                  have f1 := er_frozen hbb 1
                  have SNE := Bx.mk (fun j (hj : s1.ownBlock = some j) => (show j ≠ b by
                    rintro rfl
                    rcases gf j hj with h1 | h1 <;> rw [ob] at h1 <;> cases h1))
                  have HBB := Bx.mk hbb; have GW := Bx.mk gw; have GZ := Bx.mk gz; have KBR := Bx.mk kbr; have NX2 := Bx.mk nx2
                  clear hbb gw gz kbr nx2 gf ob m105 hsn
                  go_wp2_with fail
                  go_ret2
                  refine ⟨_, rfl, ?_, ?_, s1, ⟨?_, HB.out.bb, ?_, lsB_mem HL.out HB.out.h32⟩, fun j hj => ?_⟩
                  · rw [← HK.out]
                    exact ownsRow_mono (ownsRow_setCell_ne NX2.out ⟨b, 1, none⟩ _ (fun j hj e => by have h1 := ownsRow_fresh NX.out j hj; have h2 := NB1.out; have h3 := BL.out; have h4 : j = b := e; omega)) (by rw [← HN.out]; exact Nat.le_of_lt NB1.out)
                  · refine (KX.out.trans (KBR.out.mono (S' := BuS b (.slice (some ⟨g, 0, none⟩) ls.length c)) (fun j _ h => h)) (fun _ _ h => h)).trans ((Keep.setCell u ⟨b, 1, none⟩ _).mono (S' := BuS b (.slice (some ⟨g, 0, none⟩) ls.length c)) (fun j _ h => .inl h)) (fun _ _ h => h)
                  · simp [World.setCell, Array.getElem?_modify, HBB.out]
                  · have e : lsB n ls p = l2 ++ [z] := by unfold lsB; rw [← HK.out, ← LL.out, ← HL2.out, ← HZ.out]
                    have e2 : (l2 ++ [z]).length = L - k + 1 := by rw [List.length_append, HL2.out, List.length_take, ← LL.out]; have := KL.out; simp; try omega
                    rw [e, e2, ← hcells_push]
                    exact ownsRow_setCell_ne GW.out ⟨b, 1, none⟩ _ (fun j hj e => SNE.out j hj e)
                  · rcases GZ.out j hj with h1 | h1
                    · exact .inl h1
                    · exact .inr (Nat.le_trans KX.out.size h1)

end Go.Proofs.YtbhcaalelfaceaaGreatDoor
