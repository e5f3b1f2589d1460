/- cartularylaw10.EmitAll walked. -/
import Derived.Test.YtbhcaalelfaceaaDoorEmG
import Derived.Test.YtbhcaalelfaceaaDoorEmX
import Derived.Test.YtbhcaalelfaceaaDoorRowN
namespace Go.Proofs.YtbhcaalelfaceaaDoor
set_option maxRecDepth 100000
open Go.RowKit
theorem may_small {L I : Nat} (h : (I + 1) * 2 ^ L ≤ 600) : L ≤ 9 ∧ mayB L I = true := by
  have hp := Nat.two_pow_pos L
  have h1 : 2 ^ L ≤ 600 := Nat.le_trans (Nat.le_mul_of_pos_left _ (by omega)) h
  have hL : L ≤ 9 := by
    rcases Nat.lt_or_ge L 10 with h2 | h2
    · omega
    · have := Nat.pow_le_pow_right (n := 2) (by decide) h2
      have : (2 : Nat) ^ 10 = 1024 := by decide
      omega
  refine ⟨hL, (mayB_iff L I).2 ⟨by omega, ?_⟩⟩
  have h2 : (I + 1) * 2 ^ L ≤ 2 ^ (63 - L) * 2 ^ L := by
    rw [two_pow_split L (by omega)]
    have : (600 : Nat) ≤ 2 ^ 63 := by decide
    omega
  exact Nat.le_of_mul_le_mul_right h2 hp
theorem w64_small {t : Nat} (h : t < 600) : wrap64 ((t : Int) + 1) = ((t + 1 : Nat) : Int) := by unfold wrap64; omega
theorem meas_lt {N t : Nat} (h : t < N) (h6 : t < 600) : N - (intOf (.int .i64 (wrap64 ((t : Int) + 1)))).toNat < N - (intOf (.int .i64 (t : Int))).toNat := by
  rw [w64_small h6]
  simp [intOf]
  omega
theorem span_all {t k : Nat} (ht : t < 600) (hk : k ≤ tones t) : mayB k (t / 2 ^ k) = true ∧ spE k (t / 2 ^ k) = t + 1 := by
  have h := span_end (n := t) (by omega) hk
  have hm := (may_small (L := k) (I := t / 2 ^ k) (by omega)).2
  exact ⟨hm, by unfold spE; rw [if_pos hm, h]⟩
theorem chi_all {L I : Nat} (h : (I + 1) * 2 ^ (L + 1) ≤ 600) : dnK (L + 1) I = true ∧ dnL (L + 1) I = L ∧ dnI (L + 1) I = 2 * I ∧ dnJ (L + 1) I = 2 * I + 1 := by
  have hk : dnK (L + 1) I = true := by
    unfold dnK
    rw [(may_small h).2]
    simp
  refine ⟨hk, ?_, ?_, ?_⟩
  · unfold dnL; rw [if_pos hk]; rfl
  · unfold dnI; rw [if_pos hk]
  · unfold dnJ; rw [if_pos hk]
theorem nodesB_get (n : Nat) (ls : List (List UInt8)) (h : List UInt8) (q k : Nat) (hk : k < q) : (nodesB n ls h q)[k]'(by rw [nodesB_length]; exact hk) = (k, n / 2 ^ k, hkB ls h k) := by
  unfold nodesB
  rw [List.getElem_map, List.getElem_range]
theorem ncells_append (l l' : List (Nat × Nat × List UInt8)) : ncells (l ++ l') = ncells l ++ ncells l' := by unfold ncells; rw [List.flatMap_append]
theorem ncells_one (l : List (Nat × Nat × List UInt8)) : ∀ u ∈ ncells l, u.oneCell' = true := by
  intro u hu
  unfold ncells at hu
  obtain ⟨p, _, hp⟩ := List.mem_flatMap.1 hu
  exact ncell_mem p u hp
theorem alB_mem {f : Nat → List UInt8} (h : ∀ i, (f i).length = 32) : ∀ t, ∀ p ∈ alB f t, p.2.2.length = 32
  | 0, p, hp => by cases hp
  | t + 1, p, hp => by
    rcases List.mem_append.1 (show p ∈ alB f t ++ nodesB t (wtB f 0 t) (f t) (tones t + 1) from hp) with h1 | h1
    · exact alB_mem h t p h1
    · exact nodesB_mem (h t) _ p h1
def VY5 (l N cap : Nat) (ad : Option Addr) (oi : Nat) (v : Value) (_own : Nat → Option Nat) (_w : World) : Prop :=
  match oi with
  | 0 => v = .slice ad l cap
  | 1 => v = .int .i64 (l : Int)
  | 2 => v = .int .i64 (N : Int)
  | 3 => v = .int .i64 (N : Int)
  | _ => True
def VY5mk : Nat → Option Nat := fun _ => none
theorem VY5_mono (l N cap : Nat) (ad : Option Addr) (oi oj : Nat) (v : Value) (own : Nat → Option Nat) (w : World) (own' : Nat → Option Nat) (w' : World) (hij : oi ≠ oj)   (h : VY5 l N cap ad oj v own w) (_r : Rel VY5mk oi own w own' w') : VY5 l N cap ad oj v own' w' := by
  unfold VY5 at h ⊢
  split at h
  · exact h
  · exact h
  · exact h
  · exact h
  · trivial

def VY10 (t q Q g7 c7 B2 off l cap : Nat) (x : List UInt8) (oi : Nat) (v : Value) (_own : Nat → Option Nat) (_w : World) : Prop :=
  match oi with
  | 0 => v = .nilIface
  | 1 => v = .bool false
  | 2 => v = .bool false
  | 3 => v = .slice (some ⟨g7, 0, none⟩) q c7
  | 4 => v = .int .i64 (q : Int)
  | 5 => v = .bool false
  | 6 => v = .bool false
  | 7 => v = .bool false
  | 8 => v = .slice (some ⟨g7, 0, none⟩) q c7
  | 9 => v = .int .i64 (q : Int)
  | 10 => v = .int .i64 (t : Int)
  | 11 => v = .int .u64 (t : Int)
  | 12 => v = .int .i64 (Q : Int)
  | 13 => v = .int .i64 (q : Int)
  | 14 => v = .bool false
  | 15 => v = .bool false
  | 16 => v = .bool false
  | 17 => v = .slice (some ⟨g7, 0, none⟩) q c7
  | 18 => v = .pointer (some ⟨g7, 0, none⟩)
  | 19 => v = .pointer (some ⟨g7, 2, none⟩)
  | 20 => v = .agg (ocells (x))
  | 21 => v = .slice (some ⟨B2, off, none⟩) l cap
  | 22 => v = .int .i64 (t : Int)
  | 23 => v = .pointer (some ⟨B2, off + t * 32, none⟩)
  | 24 => v = .agg (ocells (x))
  | 25 => v = .bool false
  | 26 => v = .bool false
  | _ => True
def VY10mk : Nat → Option Nat := fun _ => none
theorem VY10_mono (t q Q g7 c7 B2 off l cap : Nat) (x : List UInt8) (oi oj : Nat) (v : Value) (own : Nat → Option Nat) (w : World) (own' : Nat → Option Nat) (w' : World) (hij : oi ≠ oj)   (h : VY10 t q Q g7 c7 B2 off l cap x oj v own w) (_r : Rel VY10mk oi own w own' w') : VY10 t q Q g7 c7 B2 off l cap x oj v own' w' := by
  unfold VY10 at h ⊢
  split at h
  · exact h
  · exact h
  · exact h
  · exact h
  · exact h
  · exact h
  · exact h
  · exact h
  · exact h
  · exact h
  · exact h
  · exact h
  · exact h
  · exact h
  · exact h
  · exact h
  · exact h
  · exact h
  · exact h
  · exact h
  · exact h
  · exact h
  · exact h
  · exact h
  · exact h
  · exact h
  · exact h
  · trivial

def VY15 (k q g7 c7 J SB E1 : Nat) (oi : Nat) (v : Value) (own : Nat → Option Nat) (w : World) : Prop :=
  match oi with
  | 0 => v = .slice (some ⟨g7, 0, none⟩) q c7
  | 1 => v = .int .i64 (k : Int)
  | 2 => v = .pointer (some ⟨g7, k * 34, none⟩)
  | 3 => v = .pointer (some ⟨g7, k * 34, none⟩)
  | 4 => v = .agg #[.int .u8 (k : Int), .int .u64 (J : Int)]
  | 5 => v = .tuple #[.agg #[.int .u64 (SB : Int), .int .u64 (E1 : Int)], .bool true]
  | 6 => v = .tuple #[.agg #[.int .u64 (SB : Int), .int .u64 (E1 : Int)], .bool true]
  | 7 => v = .agg #[.int .u64 (SB : Int), .int .u64 (E1 : Int)]
  | 8 => v = .bool true
  | 9 => AllocV own w v 10 56 2
  | 10 => StoredV own w 10 56 #[.int .u64 (SB : Int), .int .u64 (E1 : Int)]
  | 11 => v = .bool true
  | _ => True
def VY15mk : Nat → Option Nat := fun j => match j with | 10 => some 9 | _ => none
theorem VY15_mono (k q g7 c7 J SB E1 : Nat) (oi oj : Nat) (v : Value) (own : Nat → Option Nat) (w : World) (own' : Nat → Option Nat) (w' : World) (hij : oi ≠ oj)   (h : VY15 k q g7 c7 J SB E1 oj v own w) (r : Rel VY15mk oi own w own' w') : VY15 k q g7 c7 J SB E1 oj v own' w' := by
  unfold VY15 at h ⊢
  split at h
  · exact h
  · exact h
  · exact h
  · exact h
  · exact h
  · exact h
  · exact h
  · exact h
  · exact h
  · exact h.stable r rfl hij
  · exact h.stable r hij
  · exact h
  · trivial

def VY16 (t k q g7 c7 g10 _SB E1 : Nat) (oi : Nat) (v : Value) (_own : Nat → Option Nat) (_w : World) : Prop :=
  match oi with
  | 0 => v = .bool true
  | 1 => v = .bool false
  | 2 => v = .bool false
  | 3 => v = .pointer (some ⟨g10, 1, none⟩)
  | 4 => v = .int .u64 (E1 : Int)
  | 5 => v = .int .i64 (t : Int)
  | 6 => v = .int .u64 (t : Int)
  | 7 => v = .int .u64 (E1 : Int)
  | 8 => v = .bool false
  | 9 => v = .bool false
  | 10 => v = .bool false
  | 11 => v = .slice (some ⟨g7, 0, none⟩) q c7
  | 12 => v = .int .i64 (k : Int)
  | 13 => v = .pointer (some ⟨g7, k * 34, none⟩)
  | 14 => v = .pointer (some ⟨g7, k * 34, none⟩)
  | 15 => v = .pointer (some ⟨g7, k * 34, none⟩)
  | 16 => v = .int .u8 (k : Int)
  | 17 => v = .int .i64 (k : Int)
  | 18 => v = .int .i64 (k : Int)
  | 19 => v = .bool false
  | 20 => v = .bool false
  | _ => True
def VY16mk : Nat → Option Nat := fun _ => none
theorem VY16_mono (t k q g7 c7 g10 SB E1 : Nat) (oi oj : Nat) (v : Value) (own : Nat → Option Nat) (w : World) (own' : Nat → Option Nat) (w' : World) (hij : oi ≠ oj)   (h : VY16 t k q g7 c7 g10 SB E1 oj v own w) (_r : Rel VY16mk oi own w own' w') : VY16 t k q g7 c7 g10 SB E1 oj v own' w' := by
  unfold VY16 at h ⊢
  split at h
  · exact h
  · exact h
  · exact h
  · exact h
  · exact h
  · exact h
  · exact h
  · exact h
  · exact h
  · exact h
  · exact h
  · exact h
  · exact h
  · exact h
  · exact h
  · exact h
  · exact h
  · exact h
  · exact h
  · exact h
  · exact h
  · trivial

def VY24t (j M4 g4 c4 LV _IX : Nat) (oi : Nat) (v : Value) (_own : Nat → Option Nat) (_w : World) : Prop :=
  match oi with
  | 0 => v = .slice (some ⟨g4, 0, none⟩) M4 c4
  | 1 => v = .int .i64 (j : Int)
  | 2 => v = .pointer (some ⟨g4, j * 34, none⟩)
  | 3 => v = .pointer (some ⟨g4, j * 34, none⟩)
  | 4 => v = .pointer (some ⟨g4, j * 34, none⟩)
  | 5 => v = .int .u8 (LV : Int)
  | 6 => v = .bool true
  | _ => True
def VY24tmk : Nat → Option Nat := fun _ => none
theorem VY24t_mono (j M4 g4 c4 LV IX : Nat) (oi oj : Nat) (v : Value) (own : Nat → Option Nat) (w : World) (own' : Nat → Option Nat) (w' : World) (hij : oi ≠ oj)   (h : VY24t j M4 g4 c4 LV IX oj v own w) (_r : Rel VY24tmk oi own w own' w') : VY24t j M4 g4 c4 LV IX oj v own' w' := by
  unfold VY24t at h ⊢
  split at h
  · exact h
  · exact h
  · exact h
  · exact h
  · exact h
  · exact h
  · exact h
  · trivial

def VY24f (j M4 g4 c4 LV _IX : Nat) (oi : Nat) (v : Value) (_own : Nat → Option Nat) (_w : World) : Prop :=
  match oi with
  | 0 => v = .slice (some ⟨g4, 0, none⟩) M4 c4
  | 1 => v = .int .i64 (j : Int)
  | 2 => v = .pointer (some ⟨g4, j * 34, none⟩)
  | 3 => v = .pointer (some ⟨g4, j * 34, none⟩)
  | 4 => v = .pointer (some ⟨g4, j * 34, none⟩)
  | 5 => v = .int .u8 (LV : Int)
  | 6 => v = .bool false
  | _ => True
def VY24fmk : Nat → Option Nat := fun _ => none
theorem VY24f_mono (j M4 g4 c4 LV IX : Nat) (oi oj : Nat) (v : Value) (own : Nat → Option Nat) (w : World) (own' : Nat → Option Nat) (w' : World) (hij : oi ≠ oj)   (h : VY24f j M4 g4 c4 LV IX oj v own w) (_r : Rel VY24fmk oi own w own' w') : VY24f j M4 g4 c4 LV IX oj v own' w' := by
  unfold VY24f at h ⊢
  split at h
  · exact h
  · exact h
  · exact h
  · exact h
  · exact h
  · exact h
  · exact h
  · trivial

def VY25 (j M4 g4 c4 LV IX L0 IA IB : Nat) (oi : Nat) (v : Value) (own : Nat → Option Nat) (w : World) : Prop :=
  match oi with
  | 0 => v = .slice (some ⟨g4, 0, none⟩) M4 c4
  | 1 => v = .int .i64 (j : Int)
  | 2 => v = .pointer (some ⟨g4, j * 34, none⟩)
  | 3 => v = .pointer (some ⟨g4, j * 34, none⟩)
  | 4 => v = .agg #[.int .u8 (LV : Int), .int .u64 (IX : Int)]
  | 5 => v = .tuple #[.agg #[.int .u8 (L0 : Int), .int .u64 (IA : Int)], .agg #[.int .u8 (L0 : Int), .int .u64 (IB : Int)], .bool true]
  | 6 => v = .tuple #[.agg #[.int .u8 (L0 : Int), .int .u64 (IA : Int)], .agg #[.int .u8 (L0 : Int), .int .u64 (IB : Int)], .bool true]
  | 7 => v = .agg #[.int .u8 (L0 : Int), .int .u64 (IA : Int)]
  | 8 => v = .agg #[.int .u8 (L0 : Int), .int .u64 (IB : Int)]
  | 9 => v = .bool true
  | 10 => AllocV own w v 12 52 2
  | 11 => AllocV own w v 13 52 2
  | 12 => StoredV own w 12 52 #[.int .u8 (L0 : Int), .int .u64 (IA : Int)]
  | 13 => StoredV own w 13 52 #[.int .u8 (L0 : Int), .int .u64 (IB : Int)]
  | 14 => v = .bool true
  | _ => True
def VY25mk : Nat → Option Nat := fun j => match j with | 12 => some 10 | 13 => some 11 | _ => none
theorem VY25_mono (j M4 g4 c4 LV IX L0 IA IB : Nat) (oi oj : Nat) (v : Value) (own : Nat → Option Nat) (w : World) (own' : Nat → Option Nat) (w' : World) (hij : oi ≠ oj)   (h : VY25 j M4 g4 c4 LV IX L0 IA IB oj v own w) (r : Rel VY25mk oi own w own' w') : VY25 j M4 g4 c4 LV IX L0 IA IB oj v own' w' := by
  unfold VY25 at h ⊢
  split at h
  · exact h
  · exact h
  · exact h
  · exact h
  · exact h
  · exact h
  · exact h
  · exact h
  · exact h
  · exact h
  · exact h.stable r rfl hij
  · exact h.stable r rfl hij
  · exact h.stable r hij
  · exact h.stable r hij
  · exact h
  · trivial

def VY26 (M4 g4 c4 L0 IA _IB _g13 _g14 : Nat) (X : List UInt8) (oi : Nat) (v : Value) (own : Nat → Option Nat) (w : World) : Prop :=
  match oi with
  | 0 => v = .slice (some ⟨g4, 0, none⟩) M4 c4
  | 1 => v = .agg #[.int .u8 (L0 : Int), .int .u64 (IA : Int)]
  | 2 => v = .tuple #[.agg (ocells X), .bool true]
  | 3 => v = .tuple #[.agg (ocells X), .bool true]
  | 4 => v = .agg (ocells X)
  | 5 => v = .bool true
  | 6 => AllocV own w v 7 33 32
  | 7 => StoredV own w 7 33 (ocells (X))
  | 8 => v = .bool true
  | _ => True
def VY26mk : Nat → Option Nat := fun j => match j with | 7 => some 6 | _ => none
theorem VY26_mono (M4 g4 c4 L0 IA IB g13 g14 : Nat) (X : List UInt8) (oi oj : Nat) (v : Value) (own : Nat → Option Nat) (w : World) (own' : Nat → Option Nat) (w' : World) (hij : oi ≠ oj)   (h : VY26 M4 g4 c4 L0 IA IB g13 g14 X oj v own w) (r : Rel VY26mk oi own w own' w') : VY26 M4 g4 c4 L0 IA IB g13 g14 X oj v own' w' := by
  unfold VY26 at h ⊢
  split at h
  · exact h
  · exact h
  · exact h
  · exact h
  · exact h
  · exact h
  · exact h.stable r rfl hij
  · exact h.stable r hij
  · exact h
  · trivial

def VY27 (M4 g4 c4 L0 _IA IB _g13 _g14 : Nat) (X : List UInt8) (oi : Nat) (v : Value) (own : Nat → Option Nat) (w : World) : Prop :=
  match oi with
  | 0 => v = .slice (some ⟨g4, 0, none⟩) M4 c4
  | 1 => v = .agg #[.int .u8 (L0 : Int), .int .u64 (IB : Int)]
  | 2 => v = .tuple #[.agg (ocells X), .bool true]
  | 3 => v = .tuple #[.agg (ocells X), .bool true]
  | 4 => v = .agg (ocells X)
  | 5 => v = .bool true
  | 6 => AllocV own w v 7 33 32
  | 7 => StoredV own w 7 33 (ocells (X))
  | 8 => v = .bool true
  | _ => True
def VY27mk : Nat → Option Nat := fun j => match j with | 7 => some 6 | _ => none
theorem VY27_mono (M4 g4 c4 L0 IA IB g13 g14 : Nat) (X : List UInt8) (oi oj : Nat) (v : Value) (own : Nat → Option Nat) (w : World) (own' : Nat → Option Nat) (w' : World) (hij : oi ≠ oj)   (h : VY27 M4 g4 c4 L0 IA IB g13 g14 X oj v own w) (r : Rel VY27mk oi own w own' w') : VY27 M4 g4 c4 L0 IA IB g13 g14 X oj v own' w' := by
  unfold VY27 at h ⊢
  split at h
  · exact h
  · exact h
  · exact h
  · exact h
  · exact h
  · exact h
  · exact h.stable r rfl hij
  · exact h.stable r hij
  · exact h
  · trivial

def VY28 (j M4 g4 c4 _g16 _g18 : Nat) (XA XB HP : List UInt8) (oi : Nat) (v : Value) (_own : Nat → Option Nat) (_w : World) : Prop :=
  match oi with
  | 0 => v = .bool true
  | 1 => v = .bool false
  | 2 => v = .bool false
  | 3 => v = .bool true
  | 4 => v = .bool false
  | 5 => v = .bool false
  | 6 => v = .bool false
  | 7 => v = .bool true
  | 8 => v = .bool false
  | 9 => v = .bool false
  | 10 => v = .bool false
  | 11 => v = .slice (some ⟨g4, 0, none⟩) M4 c4
  | 12 => v = .int .i64 (j : Int)
  | 13 => v = .pointer (some ⟨g4, j * 34, none⟩)
  | 14 => v = .pointer (some ⟨g4, j * 34 + 2, none⟩)
  | 15 => v = .agg (ocells (HP))
  | 16 => v = .agg (ocells (XA))
  | 17 => v = .agg (ocells (XB))
  | 18 => v = .agg (ocells (HP))
  | 19 => v = .bool false
  | 20 => v = .bool false
  | _ => True
def VY28mk : Nat → Option Nat := fun _ => none
theorem VY28_mono (j M4 g4 c4 g16 g18 : Nat) (XA XB HP : List UInt8) (oi oj : Nat) (v : Value) (own : Nat → Option Nat) (w : World) (own' : Nat → Option Nat) (w' : World) (hij : oi ≠ oj)   (h : VY28 j M4 g4 c4 g16 g18 XA XB HP oj v own w) (_r : Rel VY28mk oi own w own' w') : VY28 j M4 g4 c4 g16 g18 XA XB HP oj v own' w' := by
  unfold VY28 at h ⊢
  split at h
  · exact h
  · exact h
  · exact h
  · exact h
  · exact h
  · exact h
  · exact h
  · exact h
  · exact h
  · exact h
  · exact h
  · exact h
  · exact h
  · exact h
  · exact h
  · exact h
  · exact h
  · exact h
  · exact h
  · exact h
  · exact h
  · trivial

set_option maxHeartbeats 4000000 in
theorem eall_any (A : Nat → Addr) (w : World) (ad : Option Addr) (l cap : Nat) (hs : List (List UInt8)) (hH : Hss w (.slice ad l cap) hs) (h : Em A w) : Calls Tryd.prog 6 #[.slice ad l cap] w fun e w' => e = .returned (.bool true) ∧ Below w.heap.size w w' := by
  have hl : l = hs.length := by obtain ⟨_, _, e, _⟩ := hH.len; cases e; rfl
  have hm : l ≤ 9223372036854775807 := by obtain ⟨_, _, e, q1, q2⟩ := hH.len; cases e; omega
  obtain ⟨f, hf⟩ : ∃ f : Nat → List UInt8, f = fun i => hs.getD i zero32' := ⟨_, rfl⟩
  have F32 : Bx (∀ i, (f i).length = 32) := ⟨fun i => by
    rw [hf]
    show (hs.getD i zero32').length = 32
    rw [List.getD_eq_getElem?_getD]
    cases hi : hs[i]? with
    | none => rfl
    | some x => exact hH.1 x (List.mem_of_getElem? hi)⟩
  have HFI : Bx (∀ (i : Nat) (h : i < hs.length), hs[i] = f i) := ⟨fun i h => by rw [hf]; show _ = hs.getD i zero32'; rw [List.getD_eq_getElem?_getD, List.getElem?_eq_getElem h]; rfl⟩
  have HL := Bx.mk hl; have ML := Bx.mk hm
  have EM0 := Bx.mk h; have HS0 := Bx.mk hH; have K0 := Bx.mk (Below.refl w.heap.size w)
  obtain ⟨N, hN1, hN2, hN3⟩ : ∃ N : Nat, N ≤ l ∧ N ≤ 600 ∧ min (l : Int) 600 = (N : Int) := ⟨min l 600, by omega, by omega, by omega⟩
  have NL := Bx.mk hN1; have N6 := Bx.mk hN2; have NM := Bx.mk hN3
  have AL := Bx.mk (alive10_any A w h)
  obtain ⟨i0, hi0, hz0, hz1, hz2⟩ := info_parts infoNz
  have RI := Bx.mk (And.intro hi0 (And.intro hz0 (And.intro hz1 hz2)))
  clear hl hm hf h hH hN1 hN2 hN3 hi0 hz0 hz1 hz2
  go_enter Tryd.func6, Tryd.ntmps6
  go_wp2_with fail
  refine AL.out.mono ?_
  clear AL
  rintro e w2 ⟨rfl, hb⟩
  have EM := Bx.mk (EM0.out.below hb); have HS := Bx.mk (HS0.out.below hb); have K := Bx.mk (K0.out.trans hb)
  clear EM0 HS0 K0 hb
  go_wp2_with fail
  refine (bnew_any w2).mono ?_
  rintro e W ⟨b, rfl, hB, hb⟩
  have BB := Bx.mk hB; have BW := Bx.mk hb
  clear hB hb
  go_upto_region 5 with (fail)
  refine wp_region_seq8 (n := 176) VY5mk (fun _ => none) (VY5 l N cap ad) (by kernel_rfl) rfl (fun _ _ => rfl) (fun j i hj _ => by cases hj) ?_ ?_ ?_
  · exact fun oi oj v own w own' w' hij h r => VY5_mono l N cap ad oi oj v own w own' w' (by omega)  h r
  · intro oi o hi f u own hsame hsn hfr hlate hkeep8 hdep
    have hkeep := hkeep8 _ (Nat.le_refl _)
    have hb6 := hsn.below (B := W.heap.size) (fun _ _ => rfl) (Nat.le_refl _)
    match oi, hi with
    | 0, hi =>
      cases (show some _ = some o from hi)
      have e0 : f.tmps.getD 0 undef = .slice ad l cap := hlate 0 (earlyS (by kernel_rfl))
      clear hdep hsame hi hlate hfr hkeep
      exact .inl ⟨wanted_none rfl, showsO_move hsn rfl _ rfl e0⟩
    | 1, hi =>
      cases (show some _ = some o from hi)
      have e23 : (f.tmps.getD 23 undef) = .slice ad l cap := depS (V := (VY5 l N cap ad)) hdep 0 23 (by decide) (by kernel_rfl)
      clear hdep hsame hi hlate hfr hkeep
      exact .inl ⟨wanted_none rfl, showsO_pure hsn rfl (.int .i64 (l : Int)) (by simp only [execOp, Act.eval]; go_simp) rfl⟩
    | 2, hi =>
      cases (show some _ = some o from hi)
      have e24 : (f.tmps.getD 24 undef) = .int .i64 (l : Int) := depS (V := (VY5 l N cap ad)) hdep 1 24 (by decide) (by kernel_rfl)
      clear hdep hsame hi hlate hfr hkeep
      have nm := NM.out
      exact .inl ⟨wanted_none rfl, showsO_pure hsn rfl (.int .i64 (N : Int)) (by simp only [execOp, Act.eval]; go_simp; split <;> omega) rfl⟩
    | 3, hi =>
      cases (show some _ = some o from hi)
      have e25 : (f.tmps.getD 25 undef) = .int .i64 (N : Int) := depS (V := (VY5 l N cap ad)) hdep 2 25 (by decide) (by kernel_rfl)
      clear hdep hsame hi hlate hfr hkeep
      exact .inl ⟨wanted_none rfl, showsO_assign hsn rfl _ rfl e25⟩
    | n + 4, hi => exact absurd hi (by simp)
  intro fr W2 own hsame hsn hall
  have q23 : fr.tmps.getD 23 undef = .slice ad l cap := finO (V := (VY5 l N cap ad)) hall 0 23 rfl
  have q24 : fr.tmps.getD 24 undef = .int .i64 (l : Int) := finO (V := (VY5 l N cap ad)) hall 1 24 rfl
  have q25 : fr.tmps.getD 25 undef = .int .i64 (N : Int) := finO (V := (VY5 l N cap ad)) hall 2 25 rfl
  have q5 : fr.tmps.getD 5 undef = .int .i64 (N : Int) := finO (V := (VY5 l N cap ad)) hall 3 5 rfl
  obtain rfl := frame_eq hsame [(23, .slice ad l cap), (24, .int .i64 (l : Int)), (25, .int .i64 (N : Int)), (5, .int .i64 (N : Int))] (by kernel_rfl) ⟨q23, q24, q25, q5, trivial⟩
  clear hall hsame q23 q24 q25 q5
  simp only [List.foldl, List.setIfInBounds_toArray, List.set_cons_succ, List.set_cons_zero]
  have hb := hsn.below (B := W.heap.size) (fun _ _ => rfl) (Nat.le_refl _)
  have BB := Bx.mk (BB.out.below hb); have BW := Bx.mk (BW.out.trans (hb.mono BW.out.size))
  clear hb hsn
  go_wp2_with fail
  go_loopw [4, 6] (fun av iv wr => ∃ (t : Nat) (s : Value), t ≤ N ∧ iv = .int .i64 (t : Int) ∧ BuP w2.heap.size wr b t (wtB f 0 t) s ∧ wr.ownsRow w2.heap.size 54 34 av (alB f t).length (ncells (alB f t)) ∧ Below w2.heap.size w2 wr) (fun _ iv _ => N - (intOf iv).toNat)
  case atStart => exact ⟨0, _, Nat.zero_le _, rfl, by rw [wtB_zero]; exact BB.out, World.ownsRow_nil _ _ _ _, BW.out⟩
  case round =>
    obtain ⟨t, s, ht, rfl, hB, hO, hb⟩ := hrel
    obtain ⟨M4, hM4⟩ : ∃ M4, M4 = (alB f t).length := ⟨_, rfl⟩
    rw [← hM4] at hO
    obtain ⟨a4, c4, rfl, -, -, -⟩ := own_shape hO
    have Bt := Bx.mk hB; have O4 := Bx.mk hO; have W0 := Bx.mk hb; have HM4 := Bx.mk hM4; have EMr := Bx.mk (EM.out.below hb)
    have LT := Bx.mk (wtB_len f t (by have := N6.out; omega))
    clear hB hO hb hM4 BB BW
    by_cases hlt : t < N
    · obtain ⟨-, -, -, B2, off, e, hBl, hr0, -⟩ := HS.out.at t (by rw [← HL.out]; have := NL.out; omega)
      subst e
      rw [HFI.out] at hr0
      obtain ⟨x, hx⟩ : ∃ x, x = f t := ⟨_, rfl⟩
      have XL := Bx.mk (show x.length = 32 by rw [hx]; exact F32.out t)
      rw [← hx] at hr0
      have HX := Bx.mk hx; have RX := Bx.mk hr0; have BL := Bx.mk hBl
      have RXr := Bx.mk (rangeAt_below RX.out BL.out W0.out)
      have f2 : ¬ (l : Int) ≤ (t : Int) := by have := NL.out; omega
      have f3 : (t : Int) < (l : Int) := by have := NL.out; omega
      have f4 : (t : Int) < (N : Int) := by omega
      have TL := Bx.mk hlt; have T6 := Bx.mk (show t < 600 by have := N6.out; omega)
      clear hx hr0 hBl hlt ht
      have ca := add_any A w2.heap.size wr b t (wtB f 0 t) s Bt.out LT.out (by have := T6.out; omega) x XL.out EMr.out.hs EMr.out.tz EMr.out.lt W0.out.size
      rw [hv_agg] at ca
      have CA := Bx.mk ca; clear ca
      go_upto_region 9 with (fail)
      go_wp2_with (guard_target =~ wpList _ _ _ (⟨some 36, _, _, _, _, _⟩ :: _) _ _; refine wpList_load_mid rfl 33 (.tmp 35) rfl B2 (off + t * 32) rfl (bcells x) _ RXr.out underH rfl (hszB' XL.out) ?_)
      refine CA.out.mono ?_
      clear CA RXr
      rintro e u1 ⟨v7, rfl, ho7, hk, s2, hB2, -⟩
      obtain ⟨Q, hQ⟩ : ∃ Q, Q = tones t := ⟨_, rfl⟩
      have Q64 := Bx.mk (show Q ≤ 64 by rw [hQ]; exact tones_64 t)
      obtain ⟨q, hq⟩ : ∃ q, q = Q + 1 := ⟨_, rfl⟩
      have HQ1 := Bx.mk hq
      obtain ⟨NL7, hNL⟩ : ∃ NL7, NL7 = nodesB t (wtB f 0 t) x q := ⟨_, rfl⟩
      rw [← hQ, ← hq, ← hNL] at ho7
      obtain ⟨g7, c7, rfl⟩ : ∃ g c', v7 = .slice (some ⟨g, 0, none⟩) q c' := by
        rcases Go.Joins.ownsRow_forms ho7 with ⟨-, h0⟩ | h1
        · omega
        · exact h1
      have N32 : Bx (∀ y ∈ NL7, y.2.2.length = 32) := ⟨by rw [hNL]; exact nodesB_mem XL.out q⟩
      have NLQ : Bx (q = NL7.length) := ⟨by rw [hNL, nodesB_length]⟩
      have hns := nss_own ho7 N32.out NLQ.out
      have NG : Bx (∀ k, k < q → ∀ h : k < NL7.length, NL7[k] = (k, t / 2 ^ k, hkB (wtB f 0 t) x k)) := ⟨fun k hk h => by
        have := nodesB_get t (wtB f 0 t) x q k hk
        simp only [← hNL] at this
        exact this⟩
      have RN : Bx (∀ k, k < q → u1.rangeAt g7 (k * 34) (ncell (k, t / 2 ^ k, hkB (wtB f 0 t) x k)).toList ∧ g7 < u1.heap.size) := ⟨fun k hk => by
        have hkl : k < NL7.length := by rw [← NLQ.out]; exact hk
        obtain ⟨-, -, -, Bq, oq, e, hbq, hrq, -⟩ := hns.at k hkl
        cases e
        rw [Nat.zero_add, NG.out k hk hkl] at hrq
        exact ⟨hrq, hbq⟩⟩
      have KQ : Bx (∀ k, k < q → k ≤ tones t) := ⟨fun k hk => by omega⟩
      have HNL := Bx.mk hNL; have HQ := Bx.mk hQ
      have O7 := Bx.mk ho7; have O41 := Bx.mk (own_keep O4.out hk (Bt.out.apartN O4.out)); have B1 := Bx.mk hB2; have W1 := Bx.mk (W0.out.trans (Bt.out.below0 hk W0.out.size))
      have RX1 := Bx.mk (rangeAt_below RX.out BL.out W1.out)
      clear ho7 hk hB2 hQ hq hNL hns Bt O4 W0 EMr
      have CQ : Bx (∀ u, Calls Tryd.prog 22 #[.int .u64 (t : Int)] u fun e w' => e = .returned (.int .i64 (Q : Int)) ∧ Below u.heap.size u w') := ⟨fun u => by
        have c := bones_any t u (by have := T6.out; omega)
        rw [← HQ.out] at c
        exact c.mono fun e w' h => ⟨h.1, h.2 ▸ Below.refl _ _⟩⟩
      have U1 := Bx.mk (show IntKind.u64.wrap (t : Int) = (t : Int) by have := T6.out; simp [IntKind.wrap, IntKind.bits, IntKind.signed]; omega)
      have R70 : Bx (∀ u, Below u1.heap.size u1 u → u.rangeAt g7 2 (bcells x)) := ⟨fun u hu => by
        have h := (node_parts (rangeAt_below (RN.out 0 (by rw [HQ1.out]; omega)).1 (RN.out 0 (by rw [HQ1.out]; omega)).2 hu)).2
        rw [Nat.zero_mul, Nat.zero_add] at h
        exact h⟩
      go_upto_region 10 with (fail)
      refine wp_region_own8 (n := 176) VY10mk (fun _ => none) (VY10 t q Q g7 c7 B2 off l cap x) (by kernel_rfl) (by kernel_rfl) rfl (fun _ _ => rfl) (fun j i hj _ => by cases hj) ?_ ?_ ?_
      · exact fun oi oj v own w own' w' hij _ h r => VY10_mono t q Q g7 c7 B2 off l cap x oi oj v own w own' w' hij h r
      · intro oi o hi f u own hsame hsn hfr hlate hkeep8 hdep
        have hkeep := hkeep8 _ (.inl rfl)
        have hb6 := hsn.below (B := u1.heap.size) (fun _ _ => rfl) (Nat.le_refl _)
        match oi, hi with
        | 0, hi =>
          cases (show some _ = some o from hi)
          have e8 : f.tmps.getD 8 undef = .nilIface := hsame.slot 8 (fun i o h => invB2_not 8 (by kernel_rfl) h)
          clear hdep hsame hi hlate hfr hkeep
          exact .inl ⟨wanted_none rfl, showsO_move hsn rfl _ rfl e8⟩
        | 1, hi =>
          cases (show some _ = some o from hi)
          have e40 : (f.tmps.getD 40 undef) = .nilIface := depO (V := (VY10 t q Q g7 c7 B2 off l cap x)) hdep 0 40 (by kernel_rfl) (by kernel_rfl)
          clear hdep hsame hi hlate hfr hkeep
          exact .inl ⟨wanted_none rfl, showsO_pure hsn rfl (.bool false) (by simp only [execOp, Act.eval]; go_simp) rfl⟩
        | 2, hi =>
          cases (show some _ = some o from hi)
          have e41 : (f.tmps.getD 41 undef) = .bool false := depO (V := (VY10 t q Q g7 c7 B2 off l cap x)) hdep 1 41 (by kernel_rfl) (by kernel_rfl)
          clear hdep hsame hi hlate hfr hkeep
          exact .inl ⟨wanted_none rfl, showsO_move hsn rfl _ rfl e41⟩
        | 3, hi =>
          cases (show some _ = some o from hi)
          have e7 : f.tmps.getD 7 undef = .slice (some ⟨g7, 0, none⟩) q c7 := hsame.slot 7 (fun i o h => invB2_not 7 (by kernel_rfl) h)
          have eg : f.tmps.getD 42 undef = .bool false := depO (V := (VY10 t q Q g7 c7 B2 off l cap x)) hdep 2 42 (by kernel_rfl) (by kernel_rfl)
          clear hdep hsame hi hlate hfr hkeep
          exact .inl ⟨wanted_of 2 rfl eg (by kernel_rfl), showsO_move hsn rfl _ rfl e7⟩
        | 4, hi =>
          cases (show some _ = some o from hi)
          have e43 : (f.tmps.getD 43 undef) = .slice (some ⟨g7, 0, none⟩) q c7 := depO (V := (VY10 t q Q g7 c7 B2 off l cap x)) hdep 3 43 (by kernel_rfl) (by kernel_rfl)
          have eg : f.tmps.getD 42 undef = .bool false := depO (V := (VY10 t q Q g7 c7 B2 off l cap x)) hdep 2 42 (by kernel_rfl) (by kernel_rfl)
          clear hdep hsame hi hlate hfr hkeep
          exact .inl ⟨wanted_of 2 rfl eg (by kernel_rfl), showsO_pure hsn rfl (.int .i64 (q : Int)) (by simp only [execOp, Act.eval]; go_simp) rfl⟩
        | 5, hi =>
          cases (show some _ = some o from hi)
          have e44 : (f.tmps.getD 44 undef) = .int .i64 (q : Int) := depO (V := (VY10 t q Q g7 c7 B2 off l cap x)) hdep 4 44 (by kernel_rfl) (by kernel_rfl)
          have eg : f.tmps.getD 42 undef = .bool false := depO (V := (VY10 t q Q g7 c7 B2 off l cap x)) hdep 2 42 (by kernel_rfl) (by kernel_rfl)
          clear hdep hsame hi hlate hfr hkeep
          have f4 : ((q : Int) == 0) = false := by rw [beq_eq_false_iff_ne]; have := HQ1.out; omega
          exact .inl ⟨wanted_of 2 rfl eg (by kernel_rfl), showsO_pure hsn rfl (.bool false) (by simp only [execOp, Act.eval]; go_simp) rfl⟩
        | 6, hi =>
          cases (show some _ = some o from hi)
          have e42 : (f.tmps.getD 42 undef) = .bool false := depO (V := (VY10 t q Q g7 c7 B2 off l cap x)) hdep 2 42 (by kernel_rfl) (by kernel_rfl)
          have e45 : (f.tmps.getD 45 undef) = .bool false := depO (V := (VY10 t q Q g7 c7 B2 off l cap x)) hdep 5 45 (by kernel_rfl) (by kernel_rfl)
          clear hdep hsame hi hlate hfr hkeep
          exact .inl ⟨wanted_none rfl, showsO_pure hsn rfl (.bool false) (by simp only [execOp, Act.eval]; go_simp) rfl⟩
        | 7, hi =>
          cases (show some _ = some o from hi)
          have e46 : (f.tmps.getD 46 undef) = .bool false := depO (V := (VY10 t q Q g7 c7 B2 off l cap x)) hdep 6 46 (by kernel_rfl) (by kernel_rfl)
          clear hdep hsame hi hlate hfr hkeep
          exact .inl ⟨wanted_none rfl, showsO_move hsn rfl _ rfl e46⟩
        | 8, hi =>
          cases (show some _ = some o from hi)
          have e7 : f.tmps.getD 7 undef = .slice (some ⟨g7, 0, none⟩) q c7 := hsame.slot 7 (fun i o h => invB2_not 7 (by kernel_rfl) h)
          have eg : f.tmps.getD 47 undef = .bool false := depO (V := (VY10 t q Q g7 c7 B2 off l cap x)) hdep 7 47 (by kernel_rfl) (by kernel_rfl)
          clear hdep hsame hi hlate hfr hkeep
          exact .inl ⟨wanted_of 7 rfl eg (by kernel_rfl), showsO_move hsn rfl _ rfl e7⟩
        | 9, hi =>
          cases (show some _ = some o from hi)
          have e48 : (f.tmps.getD 48 undef) = .slice (some ⟨g7, 0, none⟩) q c7 := depO (V := (VY10 t q Q g7 c7 B2 off l cap x)) hdep 8 48 (by kernel_rfl) (by kernel_rfl)
          have eg : f.tmps.getD 47 undef = .bool false := depO (V := (VY10 t q Q g7 c7 B2 off l cap x)) hdep 7 47 (by kernel_rfl) (by kernel_rfl)
          clear hdep hsame hi hlate hfr hkeep
          exact .inl ⟨wanted_of 7 rfl eg (by kernel_rfl), showsO_pure hsn rfl (.int .i64 (q : Int)) (by simp only [execOp, Act.eval]; go_simp) rfl⟩
        | 10, hi =>
          cases (show some _ = some o from hi)
          have e6 : f.tmps.getD 6 undef = .int .i64 (t : Int) := hsame.slot 6 (fun i o h => invB2_not 6 (by kernel_rfl) h)
          have eg : f.tmps.getD 47 undef = .bool false := depO (V := (VY10 t q Q g7 c7 B2 off l cap x)) hdep 7 47 (by kernel_rfl) (by kernel_rfl)
          clear hdep hsame hi hlate hfr hkeep
          exact .inl ⟨wanted_of 7 rfl eg (by kernel_rfl), showsO_move hsn rfl _ rfl e6⟩
        | 11, hi =>
          cases (show some _ = some o from hi)
          have e50 : (f.tmps.getD 50 undef) = .int .i64 (t : Int) := depO (V := (VY10 t q Q g7 c7 B2 off l cap x)) hdep 10 50 (by kernel_rfl) (by kernel_rfl)
          have eg : f.tmps.getD 47 undef = .bool false := depO (V := (VY10 t q Q g7 c7 B2 off l cap x)) hdep 7 47 (by kernel_rfl) (by kernel_rfl)
          clear hdep hsame hi hlate hfr hkeep
          have d1 := U1.out
          exact .inl ⟨wanted_of 7 rfl eg (by kernel_rfl), showsO_pure hsn rfl (.int .u64 (t : Int)) (by simp only [execOp, Act.eval]; go_simp) rfl⟩
        | 12, hi =>
          cases (show some _ = some o from hi)
          have e51 : (f.tmps.getD 51 undef) = .int .u64 (t : Int) := depO (V := (VY10 t q Q g7 c7 B2 off l cap x)) hdep 11 51 (by kernel_rfl) (by kernel_rfl)
          have eg : f.tmps.getD 47 undef = .bool false := depO (V := (VY10 t q Q g7 c7 B2 off l cap x)) hdep 7 47 (by kernel_rfl) (by kernel_rfl)
          clear hdep hsame hi hlate hfr hkeep
          have c := CQ.out u
          exact .inl ⟨wanted_of 7 rfl eg (by kernel_rfl), showsO_call1 hsn rfl 22 #[.int .u64 (t : Int)] (by simp only [execOp, Act.eval]; go_simp) (c) (fun _ => rfl)⟩
        | 13, hi =>
          cases (show some _ = some o from hi)
          have e52 : (f.tmps.getD 52 undef) = .int .i64 (Q : Int) := depO (V := (VY10 t q Q g7 c7 B2 off l cap x)) hdep 12 52 (by kernel_rfl) (by kernel_rfl)
          have eg : f.tmps.getD 47 undef = .bool false := depO (V := (VY10 t q Q g7 c7 B2 off l cap x)) hdep 7 47 (by kernel_rfl) (by kernel_rfl)
          clear hdep hsame hi hlate hfr hkeep
          have h1 := HQ1.out
          have h2 := Q64.out
          exact .inl ⟨wanted_of 7 rfl eg (by kernel_rfl), showsO_pure hsn rfl (.int .i64 (q : Int)) (by simp only [execOp, Act.eval]; go_simp; simp [IntKind.wrap, IntKind.bits, IntKind.signed]; omega) rfl⟩
        | 14, hi =>
          cases (show some _ = some o from hi)
          have e49 : (f.tmps.getD 49 undef) = .int .i64 (q : Int) := depO (V := (VY10 t q Q g7 c7 B2 off l cap x)) hdep 9 49 (by kernel_rfl) (by kernel_rfl)
          have e53 : (f.tmps.getD 53 undef) = .int .i64 (q : Int) := depO (V := (VY10 t q Q g7 c7 B2 off l cap x)) hdep 13 53 (by kernel_rfl) (by kernel_rfl)
          have eg : f.tmps.getD 47 undef = .bool false := depO (V := (VY10 t q Q g7 c7 B2 off l cap x)) hdep 7 47 (by kernel_rfl) (by kernel_rfl)
          clear hdep hsame hi hlate hfr hkeep
          exact .inl ⟨wanted_of 7 rfl eg (by kernel_rfl), showsO_pure hsn rfl (.bool false) (by simp only [execOp, Act.eval]; go_simp) rfl⟩
        | 15, hi =>
          cases (show some _ = some o from hi)
          have e47 : (f.tmps.getD 47 undef) = .bool false := depO (V := (VY10 t q Q g7 c7 B2 off l cap x)) hdep 7 47 (by kernel_rfl) (by kernel_rfl)
          have e54 : (f.tmps.getD 54 undef) = .bool false := depO (V := (VY10 t q Q g7 c7 B2 off l cap x)) hdep 14 54 (by kernel_rfl) (by kernel_rfl)
          clear hdep hsame hi hlate hfr hkeep
          exact .inl ⟨wanted_none rfl, showsO_pure hsn rfl (.bool false) (by simp only [execOp, Act.eval]; go_simp) rfl⟩
        | 16, hi =>
          cases (show some _ = some o from hi)
          have e55 : (f.tmps.getD 55 undef) = .bool false := depO (V := (VY10 t q Q g7 c7 B2 off l cap x)) hdep 15 55 (by kernel_rfl) (by kernel_rfl)
          clear hdep hsame hi hlate hfr hkeep
          exact .inl ⟨wanted_none rfl, showsO_move hsn rfl _ rfl e55⟩
        | 17, hi =>
          cases (show some _ = some o from hi)
          have e7 : f.tmps.getD 7 undef = .slice (some ⟨g7, 0, none⟩) q c7 := hsame.slot 7 (fun i o h => invB2_not 7 (by kernel_rfl) h)
          have eg : f.tmps.getD 56 undef = .bool false := depO (V := (VY10 t q Q g7 c7 B2 off l cap x)) hdep 16 56 (by kernel_rfl) (by kernel_rfl)
          clear hdep hsame hi hlate hfr hkeep
          exact .inl ⟨wanted_of 16 rfl eg (by kernel_rfl), showsO_move hsn rfl _ rfl e7⟩
        | 18, hi =>
          cases (show some _ = some o from hi)
          have e57 : (f.tmps.getD 57 undef) = .slice (some ⟨g7, 0, none⟩) q c7 := depO (V := (VY10 t q Q g7 c7 B2 off l cap x)) hdep 17 57 (by kernel_rfl) (by kernel_rfl)
          have eg : f.tmps.getD 56 undef = .bool false := depO (V := (VY10 t q Q g7 c7 B2 off l cap x)) hdep 16 56 (by kernel_rfl) (by kernel_rfl)
          clear hdep hsame hi hlate hfr hkeep
          have f5 : ¬ (q : Int) ≤ 0 := by have := HQ1.out; omega
          have f6 : (0 : Int) < (q : Int) := by have := HQ1.out; omega
          have f7 : ¬ q = 0 := by have := HQ1.out; omega
          exact .inl ⟨wanted_of 16 rfl eg (by kernel_rfl), showsO_pure hsn rfl (.pointer (some ⟨g7, 0, none⟩)) (by simp only [execOp, Act.eval]; go_simp) rfl⟩
        | 19, hi =>
          cases (show some _ = some o from hi)
          have e58 : (f.tmps.getD 58 undef) = .pointer (some ⟨g7, 0, none⟩) := depO (V := (VY10 t q Q g7 c7 B2 off l cap x)) hdep 18 58 (by kernel_rfl) (by kernel_rfl)
          have eg : f.tmps.getD 56 undef = .bool false := depO (V := (VY10 t q Q g7 c7 B2 off l cap x)) hdep 16 56 (by kernel_rfl) (by kernel_rfl)
          clear hdep hsame hi hlate hfr hkeep
          exact .inl ⟨wanted_of 16 rfl eg (by kernel_rfl), showsO_pure hsn rfl (.pointer (some ⟨g7, 2, none⟩)) (by simp only [execOp, Act.eval]; go_simp) rfl⟩
        | 20, hi =>
          cases (show some _ = some o from hi)
          have e59 : (f.tmps.getD 59 undef) = .pointer (some ⟨g7, 2, none⟩) := depO (V := (VY10 t q Q g7 c7 B2 off l cap x)) hdep 19 59 (by kernel_rfl) (by kernel_rfl)
          have eg : f.tmps.getD 56 undef = .bool false := depO (V := (VY10 t q Q g7 c7 B2 off l cap x)) hdep 16 56 (by kernel_rfl) (by kernel_rfl)
          clear hdep hsame hi hlate hfr hkeep
          exact .inl ⟨wanted_of 16 rfl eg (by kernel_rfl), showsO_mid hsn rfl 33 (.tmp 59) rfl g7 (2) e59 (bcells (x)) (R70.out u hb6) underH rfl (hszB' XL.out) rfl⟩
        | 21, hi =>
          cases (show some _ = some o from hi)
          have e0 : f.tmps.getD 0 undef = .slice (some ⟨B2, off, none⟩) l cap := hsame.slot 0 (fun i o h => invB2_not 0 (by kernel_rfl) h)
          have eg : f.tmps.getD 56 undef = .bool false := depO (V := (VY10 t q Q g7 c7 B2 off l cap x)) hdep 16 56 (by kernel_rfl) (by kernel_rfl)
          clear hdep hsame hi hlate hfr hkeep
          exact .inl ⟨wanted_of 16 rfl eg (by kernel_rfl), showsO_move hsn rfl _ rfl e0⟩
        | 22, hi =>
          cases (show some _ = some o from hi)
          have e6 : f.tmps.getD 6 undef = .int .i64 (t : Int) := hsame.slot 6 (fun i o h => invB2_not 6 (by kernel_rfl) h)
          have eg : f.tmps.getD 56 undef = .bool false := depO (V := (VY10 t q Q g7 c7 B2 off l cap x)) hdep 16 56 (by kernel_rfl) (by kernel_rfl)
          clear hdep hsame hi hlate hfr hkeep
          exact .inl ⟨wanted_of 16 rfl eg (by kernel_rfl), showsO_move hsn rfl _ rfl e6⟩
        | 23, hi =>
          cases (show some _ = some o from hi)
          have e61 : (f.tmps.getD 61 undef) = .slice (some ⟨B2, off, none⟩) l cap := depO (V := (VY10 t q Q g7 c7 B2 off l cap x)) hdep 21 61 (by kernel_rfl) (by kernel_rfl)
          have e62 : (f.tmps.getD 62 undef) = .int .i64 (t : Int) := depO (V := (VY10 t q Q g7 c7 B2 off l cap x)) hdep 22 62 (by kernel_rfl) (by kernel_rfl)
          have eg : f.tmps.getD 56 undef = .bool false := depO (V := (VY10 t q Q g7 c7 B2 off l cap x)) hdep 16 56 (by kernel_rfl) (by kernel_rfl)
          clear hdep hsame hi hlate hfr hkeep
          have f2 : ¬ (l : Int) ≤ (t : Int) := by have := NL.out; have := TL.out; omega
          have f3 : (t : Int) < (l : Int) := by have := NL.out; have := TL.out; omega
          exact .inl ⟨wanted_of 16 rfl eg (by kernel_rfl), showsO_pure hsn rfl (.pointer (some ⟨B2, off + t * 32, none⟩)) (by simp only [execOp, Act.eval]; go_simp) rfl⟩
        | 24, hi =>
          cases (show some _ = some o from hi)
          have e63 : (f.tmps.getD 63 undef) = .pointer (some ⟨B2, off + t * 32, none⟩) := depO (V := (VY10 t q Q g7 c7 B2 off l cap x)) hdep 23 63 (by kernel_rfl) (by kernel_rfl)
          have eg : f.tmps.getD 56 undef = .bool false := depO (V := (VY10 t q Q g7 c7 B2 off l cap x)) hdep 16 56 (by kernel_rfl) (by kernel_rfl)
          clear hdep hsame hi hlate hfr hkeep
          exact .inl ⟨wanted_of 16 rfl eg (by kernel_rfl), showsO_mid hsn rfl 33 (.tmp 63) rfl B2 (off + t * 32) e63 (bcells (x)) (rangeAt_below RX1.out (Nat.lt_of_lt_of_le BL.out W1.out.size) hb6) underH rfl (hszB' XL.out) rfl⟩
        | 25, hi =>
          cases (show some _ = some o from hi)
          have e60 : (f.tmps.getD 60 undef) = .agg (ocells (x)) := depO (V := (VY10 t q Q g7 c7 B2 off l cap x)) hdep 20 60 (by kernel_rfl) (by kernel_rfl)
          have e64 : (f.tmps.getD 64 undef) = .agg (ocells (x)) := depO (V := (VY10 t q Q g7 c7 B2 off l cap x)) hdep 24 64 (by kernel_rfl) (by kernel_rfl)
          have eg : f.tmps.getD 56 undef = .bool false := depO (V := (VY10 t q Q g7 c7 B2 off l cap x)) hdep 16 56 (by kernel_rfl) (by kernel_rfl)
          clear hdep hsame hi hlate hfr hkeep
          have q := fun u => hv_neq u (x) (x) XL.out XL.out
          simp only [hv_agg, beq_self_eq_true, Bool.not_true] at q
          exact .inl ⟨wanted_of 16 rfl eg (by kernel_rfl), showsO_pure hsn rfl (.bool false) (by simp only [execOp, Act.eval]; go_simp) rfl⟩
        | 26, hi =>
          cases (show some _ = some o from hi)
          have e56 : (f.tmps.getD 56 undef) = .bool false := depO (V := (VY10 t q Q g7 c7 B2 off l cap x)) hdep 16 56 (by kernel_rfl) (by kernel_rfl)
          have e65 : (f.tmps.getD 65 undef) = .bool false := depO (V := (VY10 t q Q g7 c7 B2 off l cap x)) hdep 25 65 (by kernel_rfl) (by kernel_rfl)
          clear hdep hsame hi hlate hfr hkeep
          exact .inl ⟨wanted_none rfl, showsO_pure hsn rfl (.bool false) (by simp only [execOp, Act.eval]; go_simp) rfl⟩
        | n + 27, hi => exact absurd hi (by simp)
      intro fr u2 own hsame hsn hall
      have q40 : fr.tmps.getD 40 undef = .nilIface := finO (V := (VY10 t q Q g7 c7 B2 off l cap x)) hall 0 40 rfl
      have q41 : fr.tmps.getD 41 undef = .bool false := finO (V := (VY10 t q Q g7 c7 B2 off l cap x)) hall 1 41 rfl
      have q42 : fr.tmps.getD 42 undef = .bool false := finO (V := (VY10 t q Q g7 c7 B2 off l cap x)) hall 2 42 rfl
      have q43 : fr.tmps.getD 43 undef = .slice (some ⟨g7, 0, none⟩) q c7 := finO (V := (VY10 t q Q g7 c7 B2 off l cap x)) hall 3 43 rfl
      have q44 : fr.tmps.getD 44 undef = .int .i64 (q : Int) := finO (V := (VY10 t q Q g7 c7 B2 off l cap x)) hall 4 44 rfl
      have q45 : fr.tmps.getD 45 undef = .bool false := finO (V := (VY10 t q Q g7 c7 B2 off l cap x)) hall 5 45 rfl
      have q46 : fr.tmps.getD 46 undef = .bool false := finO (V := (VY10 t q Q g7 c7 B2 off l cap x)) hall 6 46 rfl
      have q47 : fr.tmps.getD 47 undef = .bool false := finO (V := (VY10 t q Q g7 c7 B2 off l cap x)) hall 7 47 rfl
      have q48 : fr.tmps.getD 48 undef = .slice (some ⟨g7, 0, none⟩) q c7 := finO (V := (VY10 t q Q g7 c7 B2 off l cap x)) hall 8 48 rfl
      have q49 : fr.tmps.getD 49 undef = .int .i64 (q : Int) := finO (V := (VY10 t q Q g7 c7 B2 off l cap x)) hall 9 49 rfl
      have q50 : fr.tmps.getD 50 undef = .int .i64 (t : Int) := finO (V := (VY10 t q Q g7 c7 B2 off l cap x)) hall 10 50 rfl
      have q51 : fr.tmps.getD 51 undef = .int .u64 (t : Int) := finO (V := (VY10 t q Q g7 c7 B2 off l cap x)) hall 11 51 rfl
      have q52 : fr.tmps.getD 52 undef = .int .i64 (Q : Int) := finO (V := (VY10 t q Q g7 c7 B2 off l cap x)) hall 12 52 rfl
      have q53 : fr.tmps.getD 53 undef = .int .i64 (q : Int) := finO (V := (VY10 t q Q g7 c7 B2 off l cap x)) hall 13 53 rfl
      have q54 : fr.tmps.getD 54 undef = .bool false := finO (V := (VY10 t q Q g7 c7 B2 off l cap x)) hall 14 54 rfl
      have q55 : fr.tmps.getD 55 undef = .bool false := finO (V := (VY10 t q Q g7 c7 B2 off l cap x)) hall 15 55 rfl
      have q56 : fr.tmps.getD 56 undef = .bool false := finO (V := (VY10 t q Q g7 c7 B2 off l cap x)) hall 16 56 rfl
      have q57 : fr.tmps.getD 57 undef = .slice (some ⟨g7, 0, none⟩) q c7 := finO (V := (VY10 t q Q g7 c7 B2 off l cap x)) hall 17 57 rfl
      have q58 : fr.tmps.getD 58 undef = .pointer (some ⟨g7, 0, none⟩) := finO (V := (VY10 t q Q g7 c7 B2 off l cap x)) hall 18 58 rfl
      have q59 : fr.tmps.getD 59 undef = .pointer (some ⟨g7, 2, none⟩) := finO (V := (VY10 t q Q g7 c7 B2 off l cap x)) hall 19 59 rfl
      have q60 : fr.tmps.getD 60 undef = .agg (ocells (x)) := finO (V := (VY10 t q Q g7 c7 B2 off l cap x)) hall 20 60 rfl
      have q61 : fr.tmps.getD 61 undef = .slice (some ⟨B2, off, none⟩) l cap := finO (V := (VY10 t q Q g7 c7 B2 off l cap x)) hall 21 61 rfl
      have q62 : fr.tmps.getD 62 undef = .int .i64 (t : Int) := finO (V := (VY10 t q Q g7 c7 B2 off l cap x)) hall 22 62 rfl
      have q63 : fr.tmps.getD 63 undef = .pointer (some ⟨B2, off + t * 32, none⟩) := finO (V := (VY10 t q Q g7 c7 B2 off l cap x)) hall 23 63 rfl
      have q64 : fr.tmps.getD 64 undef = .agg (ocells (x)) := finO (V := (VY10 t q Q g7 c7 B2 off l cap x)) hall 24 64 rfl
      have q65 : fr.tmps.getD 65 undef = .bool false := finO (V := (VY10 t q Q g7 c7 B2 off l cap x)) hall 25 65 rfl
      have q66 : fr.tmps.getD 66 undef = .bool false := finO (V := (VY10 t q Q g7 c7 B2 off l cap x)) hall 26 66 rfl
      obtain rfl := frame_eq hsame [(40, .nilIface), (41, .bool false), (42, .bool false), (43, .slice (some ⟨g7, 0, none⟩) q c7), (44, .int .i64 (q : Int)), (45, .bool false), (46, .bool false), (47, .bool false), (48, .slice (some ⟨g7, 0, none⟩) q c7), (49, .int .i64 (q : Int)), (50, .int .i64 (t : Int)), (51, .int .u64 (t : Int)), (52, .int .i64 (Q : Int)), (53, .int .i64 (q : Int)), (54, .bool false), (55, .bool false), (56, .bool false), (57, .slice (some ⟨g7, 0, none⟩) q c7), (58, .pointer (some ⟨g7, 0, none⟩)), (59, .pointer (some ⟨g7, 2, none⟩)), (60, .agg (ocells (x))), (61, .slice (some ⟨B2, off, none⟩) l cap), (62, .int .i64 (t : Int)), (63, .pointer (some ⟨B2, off + t * 32, none⟩)), (64, .agg (ocells (x))), (65, .bool false), (66, .bool false)] (by kernel_rfl) ⟨q40, q41, q42, q43, q44, q45, q46, q47, q48, q49, q50, q51, q52, q53, q54, q55, q56, q57, q58, q59, q60, q61, q62, q63, q64, q65, q66, trivial⟩
      clear hall hsame q40 q41 q42 q43 q44 q45 q46 q47 q48 q49 q50 q51 q52 q53 q54 q55 q56 q57 q58 q59 q60 q61 q62 q63 q64 q65 q66
      simp only [List.foldl, List.setIfInBounds_toArray, List.set_cons_succ, List.set_cons_zero]
      have hb := hsn.below (B := u1.heap.size) (fun _ _ => rfl) (Nat.le_refl _)
      have BU := Bx.mk hb
      clear hb hsn CQ R70
      go_upto_region 12 with (fail)
      go_wp2_with fail
      go_loopw [9] (fun kv wz => ∃ k : Nat, k ≤ q ∧ kv = .int .i64 (k : Int) ∧ Below u1.heap.size u1 wz) (fun kv _ => q - (intOf kv).toNat)
      case atStart => exact ⟨0, Nat.zero_le _, rfl, BU.out⟩
      case round =>
        rename World => wz
        obtain ⟨k, hk, rfl, hb⟩ := hrel
        have BZ := Bx.mk hb
        clear hb BU
        by_cases hkq : k < q
        · have f2 : ¬ (q : Int) ≤ (k : Int) := by omega
          have f3 : (k : Int) < (q : Int) := by omega
          have KL := Bx.mk hkq
          obtain ⟨J, hJ⟩ : ∃ J, J = t / 2 ^ k := ⟨_, rfl⟩
          obtain ⟨sp1, sp2⟩ := span_all T6.out (KQ.out k hkq)
          have hrk := RN.out k hkq
          rw [← hJ] at sp1 sp2 hrk
          obtain ⟨E1, hE1⟩ : ∃ E1, E1 = t + 1 := ⟨_, rfl⟩
          obtain ⟨SB, hSB⟩ : ∃ SB, SB = spB k J := ⟨_, rfl⟩
          have RK := Bx.mk (fun u (hu : Below u1.heap.size u1 u) => (node_parts (rangeAt_below hrk.1 hrk.2 hu)).1)
          have CSP : Bx (∀ u, Calls Tryd.prog 23 #[.agg #[.int .u8 (k : Int), .int .u64 (J : Int)]] u fun e w' => e = .returned (.tuple #[.agg #[.int .u64 (SB : Int), .int .u64 (E1 : Int)], .bool true]) ∧ Below u.heap.size u w') := ⟨fun u => by
            have c := span_any u k J
            rw [sp1, sp2, ← hE1, ← hSB] at c
            exact c⟩
          have HE1 := Bx.mk hE1
          have U2 := Bx.mk (show IntKind.i64.wrap (k : Int) = (k : Int) by have := Q64.out; have := HQ1.out; simp [IntKind.wrap, IntKind.bits, IntKind.signed]; omega)
          clear sp1 sp2 hrk hJ hE1 hSB hk hkq
          go_upto_region 15 with (fail)
          refine wp_region_seq8 (n := 176) VY15mk (fun _ => none) (VY15 k q g7 c7 J SB E1) (by kernel_rfl) rfl (fun _ _ => rfl) (fun _ _ _ _ h => by cases h) ?_ ?_ ?_
          · exact fun oi oj v own w own' w' hij h r => VY15_mono k q g7 c7 J SB E1 oi oj v own w own' w' (by omega)  h r
          · intro oi o hi f u own hsame hsn hfr hlate hkeep8 hdep
            have hkeep := hkeep8 _ (Nat.le_refl _)
            have hb6 := hsn.below (B := wz.heap.size) (fun _ _ => rfl) (Nat.le_refl _)
            have hbz := BZ.out.trans (hb6.mono BZ.out.size)
            match oi, hi with
            | 0, hi =>
              cases (show some _ = some o from hi)
              have e7 : f.tmps.getD 7 undef = .slice (some ⟨g7, 0, none⟩) q c7 := hlate 7 (earlyS (by kernel_rfl))
              clear hdep hsame hi hlate hfr hkeep
              exact .inl ⟨wanted_none rfl, showsO_move hsn rfl _ rfl e7⟩
            | 1, hi =>
              cases (show some _ = some o from hi)
              have e9 : f.tmps.getD 9 undef = .int .i64 (k : Int) := hlate 9 (earlyS (by kernel_rfl))
              clear hdep hsame hi hlate hfr hkeep
              exact .inl ⟨wanted_none rfl, showsO_move hsn rfl _ rfl e9⟩
            | 2, hi =>
              cases (show some _ = some o from hi)
              have e74 : (f.tmps.getD 74 undef) = .slice (some ⟨g7, 0, none⟩) q c7 := depS (V := (VY15 k q g7 c7 J SB E1)) hdep 0 74 (by decide) (by kernel_rfl)
              have e75 : (f.tmps.getD 75 undef) = .int .i64 (k : Int) := depS (V := (VY15 k q g7 c7 J SB E1)) hdep 1 75 (by decide) (by kernel_rfl)
              clear hdep hsame hi hlate hfr hkeep
              have f2 : ¬ (q : Int) ≤ (k : Int) := by have := KL.out; omega
              have f3 : (k : Int) < (q : Int) := by have := KL.out; omega
              exact .inl ⟨wanted_none rfl, showsO_pure hsn rfl (.pointer (some ⟨g7, k * 34, none⟩)) (by simp only [execOp, Act.eval]; go_simp) rfl⟩
            | 3, hi =>
              cases (show some _ = some o from hi)
              have e76 : (f.tmps.getD 76 undef) = .pointer (some ⟨g7, k * 34, none⟩) := depS (V := (VY15 k q g7 c7 J SB E1)) hdep 2 76 (by decide) (by kernel_rfl)
              clear hdep hsame hi hlate hfr hkeep
              exact .inl ⟨wanted_none rfl, showsO_pure hsn rfl (.pointer (some ⟨g7, k * 34, none⟩)) (by simp only [execOp, Act.eval]; go_simp) rfl⟩
            | 4, hi =>
              cases (show some _ = some o from hi)
              have e77 : (f.tmps.getD 77 undef) = .pointer (some ⟨g7, k * 34, none⟩) := depS (V := (VY15 k q g7 c7 J SB E1)) hdep 3 77 (by decide) (by kernel_rfl)
              clear hdep hsame hi hlate hfr hkeep
              exact .inl ⟨wanted_none rfl, showsO_mid hsn rfl 52 (.tmp 77) rfl g7 (k * 34) e77 [.int .u8 (k : Int), .int .u64 (J : Int)] (RK.out u hbz) Tryd.underlying52 rfl sizeC rfl⟩
            | 5, hi =>
              cases (show some _ = some o from hi)
              have e78 : (f.tmps.getD 78 undef) = .agg #[.int .u8 (k : Int), .int .u64 (J : Int)] := depS (V := (VY15 k q g7 c7 J SB E1)) hdep 4 78 (by decide) (by kernel_rfl)
              clear hdep hsame hi hlate hfr hkeep
              have c := CSP.out u
              exact .inl ⟨wanted_none rfl, showsO_call1 hsn rfl 23 #[.agg #[.int .u8 (k : Int), .int .u64 (J : Int)]] (by simp only [execOp, Act.eval]; go_simp) (c) (fun _ => rfl)⟩
            | 6, hi =>
              cases (show some _ = some o from hi)
              have e79 : (f.tmps.getD 79 undef) = .tuple #[.agg #[.int .u64 (SB : Int), .int .u64 (E1 : Int)], .bool true] := depS (V := (VY15 k q g7 c7 J SB E1)) hdep 5 79 (by decide) (by kernel_rfl)
              clear hdep hsame hi hlate hfr hkeep
              exact .inl ⟨wanted_none rfl, showsO_move hsn rfl _ rfl e79⟩
            | 7, hi =>
              cases (show some _ = some o from hi)
              have e73 : (f.tmps.getD 73 undef) = .tuple #[.agg #[.int .u64 (SB : Int), .int .u64 (E1 : Int)], .bool true] := depS (V := (VY15 k q g7 c7 J SB E1)) hdep 6 73 (by decide) (by kernel_rfl)
              clear hdep hsame hi hlate hfr hkeep
              exact .inl ⟨wanted_none rfl, showsO_pure hsn rfl (.agg #[.int .u64 (SB : Int), .int .u64 (E1 : Int)]) (by simp only [execOp, Act.eval]; go_simp) rfl⟩
            | 8, hi =>
              cases (show some _ = some o from hi)
              have e73 : (f.tmps.getD 73 undef) = .tuple #[.agg #[.int .u64 (SB : Int), .int .u64 (E1 : Int)], .bool true] := depS (V := (VY15 k q g7 c7 J SB E1)) hdep 6 73 (by decide) (by kernel_rfl)
              clear hdep hsame hi hlate hfr hkeep
              exact .inl ⟨wanted_none rfl, showsO_pure hsn rfl (.bool true) (by simp only [execOp, Act.eval]; go_simp) rfl⟩
            | 9, hi =>
              cases (show some _ = some o from hi)
              clear hdep hsame hi hlate hkeep
              exact .inl ⟨wanted_none rfl, showsO_alloc hsn hfr rfl #[.int .u64 0, .int .u64 0] 56 10 rfl (by simp only [execOp, Act.eval]; go_simp <;> rfl) (fun h => h)⟩
            | 10, hi =>
              cases (show some _ = some o from hi)
              have e10 : AllocV own u (f.tmps.getD 10 undef) 10 56 2 := depS (V := (VY15 k q g7 c7 J SB E1)) hdep 9 10 (by decide) (by kernel_rfl)
              have e80 : (f.tmps.getD 80 undef) = .agg #[.int .u64 (SB : Int), .int .u64 (E1 : Int)] := depS (V := (VY15 k q g7 c7 J SB E1)) hdep 7 80 (by decide) (by kernel_rfl)
              clear hdep hsame hi hlate hfr hkeep
              exact .inl ⟨wanted_none rfl, showsO_store_alloc hsn rfl 56 (.tmp 10) (.tmp 80) rfl e10 #[.int .u64 (SB : Int), .int .u64 (E1 : Int)] e80 sizeS rfl (by simp [Value.oneCell']) (fun _ h => h)⟩
            | 11, hi =>
              cases (show some _ = some o from hi)
              have e81 : (f.tmps.getD 81 undef) = .bool true := depS (V := (VY15 k q g7 c7 J SB E1)) hdep 8 81 (by decide) (by kernel_rfl)
              clear hdep hsame hi hlate hfr hkeep
              exact .inl ⟨wanted_none rfl, showsO_assign hsn rfl _ rfl e81⟩
            | n + 12, hi => exact absurd hi (by simp)
          intro fr u3 own hsame hsn hall
          have q74 : fr.tmps.getD 74 undef = .slice (some ⟨g7, 0, none⟩) q c7 := finO (V := (VY15 k q g7 c7 J SB E1)) hall 0 74 rfl
          have q75 : fr.tmps.getD 75 undef = .int .i64 (k : Int) := finO (V := (VY15 k q g7 c7 J SB E1)) hall 1 75 rfl
          have q76 : fr.tmps.getD 76 undef = .pointer (some ⟨g7, k * 34, none⟩) := finO (V := (VY15 k q g7 c7 J SB E1)) hall 2 76 rfl
          have q77 : fr.tmps.getD 77 undef = .pointer (some ⟨g7, k * 34, none⟩) := finO (V := (VY15 k q g7 c7 J SB E1)) hall 3 77 rfl
          have q78 : fr.tmps.getD 78 undef = .agg #[.int .u8 (k : Int), .int .u64 (J : Int)] := finO (V := (VY15 k q g7 c7 J SB E1)) hall 4 78 rfl
          have q79 : fr.tmps.getD 79 undef = .tuple #[.agg #[.int .u64 (SB : Int), .int .u64 (E1 : Int)], .bool true] := finO (V := (VY15 k q g7 c7 J SB E1)) hall 5 79 rfl
          have q73 : fr.tmps.getD 73 undef = .tuple #[.agg #[.int .u64 (SB : Int), .int .u64 (E1 : Int)], .bool true] := finO (V := (VY15 k q g7 c7 J SB E1)) hall 6 73 rfl
          have q80 : fr.tmps.getD 80 undef = .agg #[.int .u64 (SB : Int), .int .u64 (E1 : Int)] := finO (V := (VY15 k q g7 c7 J SB E1)) hall 7 80 rfl
          have q81 : fr.tmps.getD 81 undef = .bool true := finO (V := (VY15 k q g7 c7 J SB E1)) hall 8 81 rfl
          obtain ⟨g10, q10, o10, m10⟩ := AllocV.stored (finO (V := (VY15 k q g7 c7 J SB E1)) hall 9 10 rfl) (finN (V := (VY15 k q g7 c7 J SB E1)) hall 10 rfl)
          have q11 : fr.tmps.getD 11 undef = .bool true := finO (V := (VY15 k q g7 c7 J SB E1)) hall 11 11 rfl
          obtain rfl := frame_eq hsame [(74, .slice (some ⟨g7, 0, none⟩) q c7), (75, .int .i64 (k : Int)), (76, .pointer (some ⟨g7, k * 34, none⟩)), (77, .pointer (some ⟨g7, k * 34, none⟩)), (78, .agg #[.int .u8 (k : Int), .int .u64 (J : Int)]), (79, .tuple #[.agg #[.int .u64 (SB : Int), .int .u64 (E1 : Int)], .bool true]), (73, .tuple #[.agg #[.int .u64 (SB : Int), .int .u64 (E1 : Int)], .bool true]), (80, .agg #[.int .u64 (SB : Int), .int .u64 (E1 : Int)]), (81, .bool true), (10, .pointer (some ⟨g10, 0, none⟩)), (11, .bool true)] (by kernel_rfl) ⟨q74, q75, q76, q77, q78, q79, q73, q80, q81, q10, q11, trivial⟩
          clear hall hsame q74 q75 q76 q77 q78 q79 q73 q80 q81 q10 q11
          simp only [List.foldl, List.setIfInBounds_toArray, List.set_cons_succ, List.set_cons_zero]
          have hb := hsn.below (B := wz.heap.size) (fun _ _ => rfl) (Nat.le_refl _)
          have BZ3 := Bx.mk (BZ.out.trans (hb.mono BZ.out.size)); have M10 := Bx.mk m10
          clear hb hsn o10 m10 CSP
          go_upto_region 16 with (fail)
          refine wp_region_seq8 (n := 176) VY16mk (fun _ => none) (VY16 t k q g7 c7 g10 SB E1) (by kernel_rfl) rfl (fun _ _ => rfl) (fun j i hj _ => by cases hj) ?_ ?_ ?_
          · exact fun oi oj v own w own' w' hij h r => VY16_mono t k q g7 c7 g10 SB E1 oi oj v own w own' w' (by omega)  h r
          · intro oi o hi f u own hsame hsn hfr hlate hkeep8 hdep
            have hkeep := hkeep8 _ (Nat.le_refl _)
            have hb6 := hsn.below (B := u3.heap.size) (fun _ _ => rfl) (Nat.le_refl _)
            have hbz := BZ3.out.trans (hb6.mono BZ3.out.size)
            match oi, hi with
            | 0, hi =>
              cases (show some _ = some o from hi)
              have e11 : f.tmps.getD 11 undef = .bool true := hlate 11 (earlyS (by kernel_rfl))
              clear hdep hsame hi hlate hfr hkeep
              exact .inl ⟨wanted_none rfl, showsO_move hsn rfl _ rfl e11⟩
            | 1, hi =>
              cases (show some _ = some o from hi)
              have e82 : (f.tmps.getD 82 undef) = .bool true := depS (V := (VY16 t k q g7 c7 g10 SB E1)) hdep 0 82 (by decide) (by kernel_rfl)
              clear hdep hsame hi hlate hfr hkeep
              exact .inl ⟨wanted_none rfl, showsO_pure hsn rfl (.bool false) (by simp only [execOp, Act.eval]; go_simp) rfl⟩
            | 2, hi =>
              cases (show some _ = some o from hi)
              have e83 : (f.tmps.getD 83 undef) = .bool false := depS (V := (VY16 t k q g7 c7 g10 SB E1)) hdep 1 83 (by decide) (by kernel_rfl)
              clear hdep hsame hi hlate hfr hkeep
              exact .inl ⟨wanted_none rfl, showsO_move hsn rfl _ rfl e83⟩
            | 3, hi =>
              cases (show some _ = some o from hi)
              have e10 : f.tmps.getD 10 undef = .pointer (some ⟨g10, 0, none⟩) := hlate 10 (earlyS (by kernel_rfl))
              have eg : f.tmps.getD 84 undef = .bool false := depS (V := (VY16 t k q g7 c7 g10 SB E1)) hdep 2 84 (by decide) (by kernel_rfl)
              clear hdep hsame hi hlate hfr hkeep
              exact .inl ⟨wanted_of 2 rfl eg (by kernel_rfl), showsO_pure hsn rfl (.pointer (some ⟨g10, 1, none⟩)) (by simp only [execOp, Act.eval]; go_simp) rfl⟩
            | 4, hi =>
              cases (show some _ = some o from hi)
              have e85 : (f.tmps.getD 85 undef) = .pointer (some ⟨g10, 1, none⟩) := depS (V := (VY16 t k q g7 c7 g10 SB E1)) hdep 3 85 (by decide) (by kernel_rfl)
              have eg : f.tmps.getD 84 undef = .bool false := depS (V := (VY16 t k q g7 c7 g10 SB E1)) hdep 2 84 (by decide) (by kernel_rfl)
              clear hdep hsame hi hlate hfr hkeep
              have c86 := er_cellAt ((hb6.block _ (Array.getElem?_eq_some_iff.1 M10.out).1).trans M10.out) (1) _ rfl
              exact .inl ⟨wanted_of 2 rfl eg (by kernel_rfl), showsO_pure hsn rfl (.int .u64 (E1 : Int)) (by simp only [execOp, Act.eval]; go_simp) rfl⟩
            | 5, hi =>
              cases (show some _ = some o from hi)
              have e6 : f.tmps.getD 6 undef = .int .i64 (t : Int) := hlate 6 (earlyS (by kernel_rfl))
              have eg : f.tmps.getD 84 undef = .bool false := depS (V := (VY16 t k q g7 c7 g10 SB E1)) hdep 2 84 (by decide) (by kernel_rfl)
              clear hdep hsame hi hlate hfr hkeep
              exact .inl ⟨wanted_of 2 rfl eg (by kernel_rfl), showsO_move hsn rfl _ rfl e6⟩
            | 6, hi =>
              cases (show some _ = some o from hi)
              have e87 : (f.tmps.getD 87 undef) = .int .i64 (t : Int) := depS (V := (VY16 t k q g7 c7 g10 SB E1)) hdep 5 87 (by decide) (by kernel_rfl)
              have eg : f.tmps.getD 84 undef = .bool false := depS (V := (VY16 t k q g7 c7 g10 SB E1)) hdep 2 84 (by decide) (by kernel_rfl)
              clear hdep hsame hi hlate hfr hkeep
              have d1 := U1.out
              exact .inl ⟨wanted_of 2 rfl eg (by kernel_rfl), showsO_pure hsn rfl (.int .u64 (t : Int)) (by simp only [execOp, Act.eval]; go_simp) rfl⟩
            | 7, hi =>
              cases (show some _ = some o from hi)
              have e88 : (f.tmps.getD 88 undef) = .int .u64 (t : Int) := depS (V := (VY16 t k q g7 c7 g10 SB E1)) hdep 6 88 (by decide) (by kernel_rfl)
              have eg : f.tmps.getD 84 undef = .bool false := depS (V := (VY16 t k q g7 c7 g10 SB E1)) hdep 2 84 (by decide) (by kernel_rfl)
              clear hdep hsame hi hlate hfr hkeep
              have h1 := HE1.out
              have h2 := T6.out
              exact .inl ⟨wanted_of 2 rfl eg (by kernel_rfl), showsO_pure hsn rfl (.int .u64 (E1 : Int)) (by simp only [execOp, Act.eval]; go_simp; simp [IntKind.wrap, IntKind.bits, IntKind.signed]; omega) rfl⟩
            | 8, hi =>
              cases (show some _ = some o from hi)
              have e86 : (f.tmps.getD 86 undef) = .int .u64 (E1 : Int) := depS (V := (VY16 t k q g7 c7 g10 SB E1)) hdep 4 86 (by decide) (by kernel_rfl)
              have e89 : (f.tmps.getD 89 undef) = .int .u64 (E1 : Int) := depS (V := (VY16 t k q g7 c7 g10 SB E1)) hdep 7 89 (by decide) (by kernel_rfl)
              have eg : f.tmps.getD 84 undef = .bool false := depS (V := (VY16 t k q g7 c7 g10 SB E1)) hdep 2 84 (by decide) (by kernel_rfl)
              clear hdep hsame hi hlate hfr hkeep
              exact .inl ⟨wanted_of 2 rfl eg (by kernel_rfl), showsO_pure hsn rfl (.bool false) (by simp only [execOp, Act.eval]; go_simp) rfl⟩
            | 9, hi =>
              cases (show some _ = some o from hi)
              have e84 : (f.tmps.getD 84 undef) = .bool false := depS (V := (VY16 t k q g7 c7 g10 SB E1)) hdep 2 84 (by decide) (by kernel_rfl)
              have e90 : (f.tmps.getD 90 undef) = .bool false := depS (V := (VY16 t k q g7 c7 g10 SB E1)) hdep 8 90 (by decide) (by kernel_rfl)
              clear hdep hsame hi hlate hfr hkeep
              exact .inl ⟨wanted_none rfl, showsO_pure hsn rfl (.bool false) (by simp only [execOp, Act.eval]; go_simp) rfl⟩
            | 10, hi =>
              cases (show some _ = some o from hi)
              have e91 : (f.tmps.getD 91 undef) = .bool false := depS (V := (VY16 t k q g7 c7 g10 SB E1)) hdep 9 91 (by decide) (by kernel_rfl)
              clear hdep hsame hi hlate hfr hkeep
              exact .inl ⟨wanted_none rfl, showsO_move hsn rfl _ rfl e91⟩
            | 11, hi =>
              cases (show some _ = some o from hi)
              have e7 : f.tmps.getD 7 undef = .slice (some ⟨g7, 0, none⟩) q c7 := hlate 7 (earlyS (by kernel_rfl))
              have eg : f.tmps.getD 92 undef = .bool false := depS (V := (VY16 t k q g7 c7 g10 SB E1)) hdep 10 92 (by decide) (by kernel_rfl)
              clear hdep hsame hi hlate hfr hkeep
              exact .inl ⟨wanted_of 10 rfl eg (by kernel_rfl), showsO_move hsn rfl _ rfl e7⟩
            | 12, hi =>
              cases (show some _ = some o from hi)
              have e9 : f.tmps.getD 9 undef = .int .i64 (k : Int) := hlate 9 (earlyS (by kernel_rfl))
              have eg : f.tmps.getD 92 undef = .bool false := depS (V := (VY16 t k q g7 c7 g10 SB E1)) hdep 10 92 (by decide) (by kernel_rfl)
              clear hdep hsame hi hlate hfr hkeep
              exact .inl ⟨wanted_of 10 rfl eg (by kernel_rfl), showsO_move hsn rfl _ rfl e9⟩
            | 13, hi =>
              cases (show some _ = some o from hi)
              have e93 : (f.tmps.getD 93 undef) = .slice (some ⟨g7, 0, none⟩) q c7 := depS (V := (VY16 t k q g7 c7 g10 SB E1)) hdep 11 93 (by decide) (by kernel_rfl)
              have e94 : (f.tmps.getD 94 undef) = .int .i64 (k : Int) := depS (V := (VY16 t k q g7 c7 g10 SB E1)) hdep 12 94 (by decide) (by kernel_rfl)
              have eg : f.tmps.getD 92 undef = .bool false := depS (V := (VY16 t k q g7 c7 g10 SB E1)) hdep 10 92 (by decide) (by kernel_rfl)
              clear hdep hsame hi hlate hfr hkeep
              have f2 : ¬ (q : Int) ≤ (k : Int) := by have := KL.out; omega
              have f3 : (k : Int) < (q : Int) := by have := KL.out; omega
              exact .inl ⟨wanted_of 10 rfl eg (by kernel_rfl), showsO_pure hsn rfl (.pointer (some ⟨g7, k * 34, none⟩)) (by simp only [execOp, Act.eval]; go_simp) rfl⟩
            | 14, hi =>
              cases (show some _ = some o from hi)
              have e95 : (f.tmps.getD 95 undef) = .pointer (some ⟨g7, k * 34, none⟩) := depS (V := (VY16 t k q g7 c7 g10 SB E1)) hdep 13 95 (by decide) (by kernel_rfl)
              have eg : f.tmps.getD 92 undef = .bool false := depS (V := (VY16 t k q g7 c7 g10 SB E1)) hdep 10 92 (by decide) (by kernel_rfl)
              clear hdep hsame hi hlate hfr hkeep
              exact .inl ⟨wanted_of 10 rfl eg (by kernel_rfl), showsO_pure hsn rfl (.pointer (some ⟨g7, k * 34, none⟩)) (by simp only [execOp, Act.eval]; go_simp) rfl⟩
            | 15, hi =>
              cases (show some _ = some o from hi)
              have e96 : (f.tmps.getD 96 undef) = .pointer (some ⟨g7, k * 34, none⟩) := depS (V := (VY16 t k q g7 c7 g10 SB E1)) hdep 14 96 (by decide) (by kernel_rfl)
              have eg : f.tmps.getD 92 undef = .bool false := depS (V := (VY16 t k q g7 c7 g10 SB E1)) hdep 10 92 (by decide) (by kernel_rfl)
              clear hdep hsame hi hlate hfr hkeep
              exact .inl ⟨wanted_of 10 rfl eg (by kernel_rfl), showsO_pure hsn rfl (.pointer (some ⟨g7, k * 34, none⟩)) (by simp only [execOp, Act.eval]; go_simp) rfl⟩
            | 16, hi =>
              cases (show some _ = some o from hi)
              have e97 : (f.tmps.getD 97 undef) = .pointer (some ⟨g7, k * 34, none⟩) := depS (V := (VY16 t k q g7 c7 g10 SB E1)) hdep 15 97 (by decide) (by kernel_rfl)
              have eg : f.tmps.getD 92 undef = .bool false := depS (V := (VY16 t k q g7 c7 g10 SB E1)) hdep 10 92 (by decide) (by kernel_rfl)
              clear hdep hsame hi hlate hfr hkeep
              have c98 : u.cell? ⟨g7, k * 34, none⟩ = some (.int .u8 (k : Int)) := by simpa using RK.out u hbz 0 _ rfl
              exact .inl ⟨wanted_of 10 rfl eg (by kernel_rfl), showsO_pure hsn rfl (.int .u8 (k : Int)) (by simp only [execOp, Act.eval]; go_simp) rfl⟩
            | 17, hi =>
              cases (show some _ = some o from hi)
              have e98 : (f.tmps.getD 98 undef) = .int .u8 (k : Int) := depS (V := (VY16 t k q g7 c7 g10 SB E1)) hdep 16 98 (by decide) (by kernel_rfl)
              have eg : f.tmps.getD 92 undef = .bool false := depS (V := (VY16 t k q g7 c7 g10 SB E1)) hdep 10 92 (by decide) (by kernel_rfl)
              clear hdep hsame hi hlate hfr hkeep
              have d2 := U2.out
              exact .inl ⟨wanted_of 10 rfl eg (by kernel_rfl), showsO_pure hsn rfl (.int .i64 (k : Int)) (by simp only [execOp, Act.eval]; go_simp) rfl⟩
            | 18, hi =>
              cases (show some _ = some o from hi)
              have e9 : f.tmps.getD 9 undef = .int .i64 (k : Int) := hlate 9 (earlyS (by kernel_rfl))
              have eg : f.tmps.getD 92 undef = .bool false := depS (V := (VY16 t k q g7 c7 g10 SB E1)) hdep 10 92 (by decide) (by kernel_rfl)
              clear hdep hsame hi hlate hfr hkeep
              exact .inl ⟨wanted_of 10 rfl eg (by kernel_rfl), showsO_move hsn rfl _ rfl e9⟩
            | 19, hi =>
              cases (show some _ = some o from hi)
              have e99 : (f.tmps.getD 99 undef) = .int .i64 (k : Int) := depS (V := (VY16 t k q g7 c7 g10 SB E1)) hdep 17 99 (by decide) (by kernel_rfl)
              have e100 : (f.tmps.getD 100 undef) = .int .i64 (k : Int) := depS (V := (VY16 t k q g7 c7 g10 SB E1)) hdep 18 100 (by decide) (by kernel_rfl)
              have eg : f.tmps.getD 92 undef = .bool false := depS (V := (VY16 t k q g7 c7 g10 SB E1)) hdep 10 92 (by decide) (by kernel_rfl)
              clear hdep hsame hi hlate hfr hkeep
              exact .inl ⟨wanted_of 10 rfl eg (by kernel_rfl), showsO_pure hsn rfl (.bool false) (by simp only [execOp, Act.eval]; go_simp) rfl⟩
            | 20, hi =>
              cases (show some _ = some o from hi)
              have e92 : (f.tmps.getD 92 undef) = .bool false := depS (V := (VY16 t k q g7 c7 g10 SB E1)) hdep 10 92 (by decide) (by kernel_rfl)
              have e101 : (f.tmps.getD 101 undef) = .bool false := depS (V := (VY16 t k q g7 c7 g10 SB E1)) hdep 19 101 (by decide) (by kernel_rfl)
              clear hdep hsame hi hlate hfr hkeep
              exact .inl ⟨wanted_none rfl, showsO_pure hsn rfl (.bool false) (by simp only [execOp, Act.eval]; go_simp) rfl⟩
            | n + 21, hi => exact absurd hi (by simp)
          intro fr u4 own hsame hsn hall
          have q82 : fr.tmps.getD 82 undef = .bool true := finO (V := (VY16 t k q g7 c7 g10 SB E1)) hall 0 82 rfl
          have q83 : fr.tmps.getD 83 undef = .bool false := finO (V := (VY16 t k q g7 c7 g10 SB E1)) hall 1 83 rfl
          have q84 : fr.tmps.getD 84 undef = .bool false := finO (V := (VY16 t k q g7 c7 g10 SB E1)) hall 2 84 rfl
          have q85 : fr.tmps.getD 85 undef = .pointer (some ⟨g10, 1, none⟩) := finO (V := (VY16 t k q g7 c7 g10 SB E1)) hall 3 85 rfl
          have q86 : fr.tmps.getD 86 undef = .int .u64 (E1 : Int) := finO (V := (VY16 t k q g7 c7 g10 SB E1)) hall 4 86 rfl
          have q87 : fr.tmps.getD 87 undef = .int .i64 (t : Int) := finO (V := (VY16 t k q g7 c7 g10 SB E1)) hall 5 87 rfl
          have q88 : fr.tmps.getD 88 undef = .int .u64 (t : Int) := finO (V := (VY16 t k q g7 c7 g10 SB E1)) hall 6 88 rfl
          have q89 : fr.tmps.getD 89 undef = .int .u64 (E1 : Int) := finO (V := (VY16 t k q g7 c7 g10 SB E1)) hall 7 89 rfl
          have q90 : fr.tmps.getD 90 undef = .bool false := finO (V := (VY16 t k q g7 c7 g10 SB E1)) hall 8 90 rfl
          have q91 : fr.tmps.getD 91 undef = .bool false := finO (V := (VY16 t k q g7 c7 g10 SB E1)) hall 9 91 rfl
          have q92 : fr.tmps.getD 92 undef = .bool false := finO (V := (VY16 t k q g7 c7 g10 SB E1)) hall 10 92 rfl
          have q93 : fr.tmps.getD 93 undef = .slice (some ⟨g7, 0, none⟩) q c7 := finO (V := (VY16 t k q g7 c7 g10 SB E1)) hall 11 93 rfl
          have q94 : fr.tmps.getD 94 undef = .int .i64 (k : Int) := finO (V := (VY16 t k q g7 c7 g10 SB E1)) hall 12 94 rfl
          have q95 : fr.tmps.getD 95 undef = .pointer (some ⟨g7, k * 34, none⟩) := finO (V := (VY16 t k q g7 c7 g10 SB E1)) hall 13 95 rfl
          have q96 : fr.tmps.getD 96 undef = .pointer (some ⟨g7, k * 34, none⟩) := finO (V := (VY16 t k q g7 c7 g10 SB E1)) hall 14 96 rfl
          have q97 : fr.tmps.getD 97 undef = .pointer (some ⟨g7, k * 34, none⟩) := finO (V := (VY16 t k q g7 c7 g10 SB E1)) hall 15 97 rfl
          have q98 : fr.tmps.getD 98 undef = .int .u8 (k : Int) := finO (V := (VY16 t k q g7 c7 g10 SB E1)) hall 16 98 rfl
          have q99 : fr.tmps.getD 99 undef = .int .i64 (k : Int) := finO (V := (VY16 t k q g7 c7 g10 SB E1)) hall 17 99 rfl
          have q100 : fr.tmps.getD 100 undef = .int .i64 (k : Int) := finO (V := (VY16 t k q g7 c7 g10 SB E1)) hall 18 100 rfl
          have q101 : fr.tmps.getD 101 undef = .bool false := finO (V := (VY16 t k q g7 c7 g10 SB E1)) hall 19 101 rfl
          have q102 : fr.tmps.getD 102 undef = .bool false := finO (V := (VY16 t k q g7 c7 g10 SB E1)) hall 20 102 rfl
          obtain rfl := frame_eq hsame [(82, .bool true), (83, .bool false), (84, .bool false), (85, .pointer (some ⟨g10, 1, none⟩)), (86, .int .u64 (E1 : Int)), (87, .int .i64 (t : Int)), (88, .int .u64 (t : Int)), (89, .int .u64 (E1 : Int)), (90, .bool false), (91, .bool false), (92, .bool false), (93, .slice (some ⟨g7, 0, none⟩) q c7), (94, .int .i64 (k : Int)), (95, .pointer (some ⟨g7, k * 34, none⟩)), (96, .pointer (some ⟨g7, k * 34, none⟩)), (97, .pointer (some ⟨g7, k * 34, none⟩)), (98, .int .u8 (k : Int)), (99, .int .i64 (k : Int)), (100, .int .i64 (k : Int)), (101, .bool false), (102, .bool false)] (by kernel_rfl) ⟨q82, q83, q84, q85, q86, q87, q88, q89, q90, q91, q92, q93, q94, q95, q96, q97, q98, q99, q100, q101, q102, trivial⟩
          clear hall hsame q82 q83 q84 q85 q86 q87 q88 q89 q90 q91 q92 q93 q94 q95 q96 q97 q98 q99 q100 q101 q102
          simp only [List.foldl, List.setIfInBounds_toArray, List.set_cons_succ, List.set_cons_zero]
          have hb := hsn.below (B := u3.heap.size) (fun _ _ => rfl) (Nat.le_refl _)
          have BZ4 := Bx.mk (BZ3.out.trans (hb.mono BZ3.out.size))
          clear hb hsn
          have kb : k ≤ 64 := by have := KL.out; have := Q64.out; have := HQ1.out; omega
          go_wp2_with fail
          go_roundw
          case rel => exact ⟨k + 1, KL.out, by have := KL.out; have := Q64.out; have := HQ1.out; go_num, BZ4.out⟩
          case measure => have := KL.out; simp [intOf]; omega
        · have f2 : ¬ (k : Int) < (q : Int) := by omega
          clear hk hkq
          have O42 := Bx.mk (own_keep O41.out (Keep.of_below BZ.out (fun _ => False)) (fun _ _ h => h))
          have O72 := Bx.mk (own_keep O7.out (Keep.of_below BZ.out (fun _ => False)) (fun _ _ h => h))
          have B2' := Bx.mk (B1.out.below BZ.out)
          have hsz := Bx.mk (Nat.le_trans W1.out.size BZ.out.size)
          have MB := Bx.mk (show M4 + q ≤ 1204 by
            have h1 := alB_len f (t + 1) (by have := T6.out; omega)
            have e : (alB f (t + 1)).length = M4 + q := by
              show (alB f t ++ nodesB t (wtB f 0 t) (f t) (tones t + 1)).length = _
              rw [List.length_append, nodesB_length, HM4.out, HQ1.out, HQ.out]
            have := T6.out
            omega)
          have NLL : Bx ((ncells NL7).length = q * 34) := ⟨by rw [ncells_length N32.out, NLQ.out]⟩
          go_upto_region 18 with (fail)
          go_wp2_with (guard_target =~ wpList _ _ _ (⟨some 105, _, _, _, _, _⟩ :: _) _ _; refine wpList_append_src rfl (.tmp 103) (.tmp 104) 27 rfl w2.heap.size 54 i0 (.agg zerosN) 34 48 underNs RI.out.1 RI.out.2.1 RI.out.2.2.1 RI.out.2.2.2 rfl (by decide) (.slice a4 M4 c4) M4 (ncells (alB f t)) rfl O42.out (some ⟨g7, 0, none⟩) q c7 (ncells NL7) rfl (fun h => by cases h) NLL.out (own_src O72.out).2 (ncells_one _) (by have := MB.out; unfold maxLen; omega) (by have := MB.out; omega) hsz.out ?_; intro v1 w1 hown' hgrow _; have O1 := Bx.mk hown'; have G1 := Bx.mk hgrow; clear hown' hgrow)
          have hkp := Keep.of_grown G1.out
          have b3 := B2'.out.kept hkp (fun j hj e => B2'.out.apartN O42.out j e hj)
          have wbz : Below w2.heap.size w2 wz := W1.out.trans (BZ.out.mono W1.out.size)
          have hwb := wbz.trans (hkp.below hsz.out (fun j hj => ownsRow_fresh O42.out j hj))
          have ee : M4 + q = (alB f (t + 1)).length ∧ ncells (alB f t) ++ ncells NL7 = ncells (alB f (t + 1)) := by
            constructor
            · show _ = (alB f t ++ nodesB t (wtB f 0 t) (f t) (tones t + 1)).length
              rw [List.length_append, nodesB_length, HM4.out, HQ1.out, HQ.out]
            · show _ = ncells (alB f t ++ nodesB t (wtB f 0 t) (f t) (tones t + 1))
              rw [ncells_append, HNL.out, HX.out, HQ1.out, HQ.out]
          have o1 := O1.out
          rw [ee.1, ee.2] at o1
          have b4 : BuP w2.heap.size w1 b (t + 1) (wtB f 0 (t + 1)) s2 := by
            rw [← lsB_wt0 f t (by have := T6.out; omega), ← HX.out]; exact b3
          have P1 := Bx.mk o1; have P2 := Bx.mk b4; have P3 := Bx.mk hwb
          clear hkp b3 b4 wbz hwb ee o1 O1 G1 O42 O72 B2' hsz MB NLL
          have d9 : wrap64 ((t : Int) + 1) = (t : Int) + 1 := by have := T6.out; unfold wrap64; omega
          go_wp2_with fail
          go_roundw
          case rel => exact ⟨t + 1, s2, TL.out, by go_num, P2.out, P1.out, P3.out⟩
          case measure => exact meas_lt TL.out T6.out
    · obtain rfl : t = N := by omega
      clear ht hlt
      have f2 : ¬ (t : Int) < (t : Int) := by omega
      obtain ⟨P, hP⟩ : ∃ P, P = pcnt t := ⟨_, rfl⟩
      have hsum := alB_len f t (by have := N6.out; omega)
      rw [← HM4.out, ← hP] at hsum
      have hPl : P ≤ 64 := by rw [hP]; exact pcnt_le t
      have cc := (fun u => (count_any t u (by have := N6.out; omega)).mono fun e w' h => (⟨h.1, h.2 ▸ Below.refl _ _⟩ : e = .returned (.int .i64 (pcnt t : Int)) ∧ Below u.heap.size u w'))
      rw [← hP] at cc
      have CC := Bx.mk cc
      have n6 := N6.out
      have d1 : IntKind.u64.wrap (t : Int) = (t : Int) := by simp [IntKind.wrap, IntKind.bits, IntKind.signed]; omega
      have d2 : IntKind.i64.wrap (2 * (t : Int)) = 2 * (t : Int) := by simp [IntKind.wrap, IntKind.bits, IntKind.signed]; omega
      have d3 : IntKind.i64.wrap (2 * (t : Int) - (P : Int)) = (M4 : Int) := by rw [show 2 * (t : Int) - (P : Int) = (M4 : Int) by omega]; simp [IntKind.wrap, IntKind.bits, IntKind.signed]; omega
      have HSUM := Bx.mk hsum; have ML4 := Bx.mk (show M4 ≤ 1200 by omega)
      have SB : Bx (∀ u, Below wr.heap.size wr u → Calls Tryd.prog 12 #[.pointer (some ⟨b, 0, none⟩)] u fun e w' => e = .returned (.int .u64 (t : Int)) ∧ Below u.heap.size u w') := ⟨fun u hu => (bsize_any _ u b _ _ _ (Bt.out.below hu)).mono fun e w' h => ⟨h.1, h.2 ▸ Below.refl _ _⟩⟩
      have D1 := Bx.mk d1
      clear hP hsum hPl cc
      go_wp2_with fail
      refine (CC.out wr).mono ?_
      clear CC
      rintro e u1 ⟨rfl, hb⟩
      have BU := Bx.mk hb
      clear hb
      go_wp2_with fail
      clear d1 d2 d3 n6
      obtain ⟨ALN, hALN⟩ : ∃ ALN, ALN = alB f t := ⟨_, rfl⟩
      have HALN := Bx.mk hALN
      have AL32 := Bx.mk (alB_mem F32.out t)
      have o4 := O4.out; have hm4 := HM4.out
      rw [← hALN] at AL32 o4 hm4
      have O4' := Bx.mk o4; have HM4' := Bx.mk hm4
      have NS4 := Bx.mk (nss_own o4 AL32.out hm4)
      clear hALN o4 hm4 O4 HM4
      go_loopw [12] (fun jv wz => ∃ j : Nat, j ≤ M4 ∧ jv = .int .i64 (j : Int) ∧ Below wr.heap.size wr wz) (fun jv _ => M4 - (intOf jv).toNat)
      case atStart => exact ⟨0, Nat.zero_le _, rfl, BU.out⟩
      case round =>
        rename World => wz
        obtain ⟨j, hj, rfl, hb⟩ := hrel
        have BZ := Bx.mk hb
        clear hb BU
        by_cases hjm : j < M4
        · have hjl : j < ALN.length := by rw [← HM4'.out]; exact hjm
          obtain ⟨g4, c4', e4⟩ : ∃ g c', Value.slice a4 M4 c4 = .slice (some ⟨g, 0, none⟩) M4 c' := by
            rcases Go.Joins.ownsRow_forms O4'.out with ⟨-, h0⟩ | h1
            · omega
            · exact h1
          cases e4
          obtain ⟨-, -, -, Bq, oq, e, hbq, hrq, hl32⟩ := NS4.out.at j hjl
          cases e
          rw [Nat.zero_add] at hrq
          obtain ⟨px, hpx⟩ : ∃ px, px = ALN[j] := ⟨_, rfl⟩
          have htr := alB_tree f t (by have := N6.out; omega) px (by rw [hpx, ← HALN.out]; exact List.getElem_mem hjl)
          rw [← hpx] at hrq hl32
          obtain ⟨LV, IX, HP⟩ := px
          have HP32 := Bx.mk (show HP.length = 32 from hl32)
          have TR1 := Bx.mk (show HP = trB f LV IX from htr.1); have TR2 := Bx.mk (show (IX + 1) * 2 ^ LV ≤ t from htr.2)
          have RC := Bx.mk (fun u (hu : Below wr.heap.size wr u) => (node_parts (rangeAt_below hrq hbq hu)).1)
          have RH := Bx.mk (fun u (hu : Below wr.heap.size wr u) => (node_parts (rangeAt_below hrq hbq hu)).2)
          have f2 : ¬ (M4 : Int) ≤ (j : Int) := by omega
          have f3 : (j : Int) < (M4 : Int) := by omega
          have JL := Bx.mk hjm
          clear hrq hl32 hbq htr hpx hjl hjm hj
          by_cases hL0 : LV = 0
          · have FL : Bx (((LV : Int) == 0) = true) := ⟨by rw [hL0]; rfl⟩
            clear hL0
            go_upto_region 24 with (fail)
            refine wp_region_seq8 (n := 176) VY24tmk (fun _ => none) (VY24t j M4 g4 c4 LV IX) (by kernel_rfl) rfl (fun _ _ => rfl) (fun j i hj _ => by cases hj) ?_ ?_ ?_
            · exact fun oi oj v own w own' w' hij h r => VY24t_mono j M4 g4 c4 LV IX oi oj v own w own' w' (by omega)  h r
            · intro oi o hi f u own hsame hsn hfr hlate hkeep8 hdep
              have hkeep := hkeep8 _ (Nat.le_refl _)
              have hb6 := hsn.below (B := wz.heap.size) (fun _ _ => rfl) (Nat.le_refl _)
              have hbz := BZ.out.trans (hb6.mono BZ.out.size)
              match oi, hi with
              | 0, hi =>
                cases (show some _ = some o from hi)
                have e4 : f.tmps.getD 4 undef = .slice (some ⟨g4, 0, none⟩) M4 c4 := hlate 4 (earlyS (by kernel_rfl))
                clear hdep hsame hi hlate hfr hkeep
                exact .inl ⟨wanted_none rfl, showsO_move hsn rfl _ rfl e4⟩
              | 1, hi =>
                cases (show some _ = some o from hi)
                have e12 : f.tmps.getD 12 undef = .int .i64 (j : Int) := hlate 12 (earlyS (by kernel_rfl))
                clear hdep hsame hi hlate hfr hkeep
                exact .inl ⟨wanted_none rfl, showsO_move hsn rfl _ rfl e12⟩
              | 2, hi =>
                cases (show some _ = some o from hi)
                have e121 : (f.tmps.getD 121 undef) = .slice (some ⟨g4, 0, none⟩) M4 c4 := depS (V := (VY24t j M4 g4 c4 LV IX)) hdep 0 121 (by decide) (by kernel_rfl)
                have e122 : (f.tmps.getD 122 undef) = .int .i64 (j : Int) := depS (V := (VY24t j M4 g4 c4 LV IX)) hdep 1 122 (by decide) (by kernel_rfl)
                clear hdep hsame hi hlate hfr hkeep
                have f2 : ¬ (M4 : Int) ≤ (j : Int) := by have := JL.out; omega
                have f3 : (j : Int) < (M4 : Int) := by have := JL.out; omega
                exact .inl ⟨wanted_none rfl, showsO_pure hsn rfl (.pointer (some ⟨g4, j * 34, none⟩)) (by simp only [execOp, Act.eval]; go_simp) rfl⟩
              | 3, hi =>
                cases (show some _ = some o from hi)
                have e123 : (f.tmps.getD 123 undef) = .pointer (some ⟨g4, j * 34, none⟩) := depS (V := (VY24t j M4 g4 c4 LV IX)) hdep 2 123 (by decide) (by kernel_rfl)
                clear hdep hsame hi hlate hfr hkeep
                exact .inl ⟨wanted_none rfl, showsO_pure hsn rfl (.pointer (some ⟨g4, j * 34, none⟩)) (by simp only [execOp, Act.eval]; go_simp) rfl⟩
              | 4, hi =>
                cases (show some _ = some o from hi)
                have e124 : (f.tmps.getD 124 undef) = .pointer (some ⟨g4, j * 34, none⟩) := depS (V := (VY24t j M4 g4 c4 LV IX)) hdep 3 124 (by decide) (by kernel_rfl)
                clear hdep hsame hi hlate hfr hkeep
                exact .inl ⟨wanted_none rfl, showsO_pure hsn rfl (.pointer (some ⟨g4, j * 34, none⟩)) (by simp only [execOp, Act.eval]; go_simp) rfl⟩
              | 5, hi =>
                cases (show some _ = some o from hi)
                have e125 : (f.tmps.getD 125 undef) = .pointer (some ⟨g4, j * 34, none⟩) := depS (V := (VY24t j M4 g4 c4 LV IX)) hdep 4 125 (by decide) (by kernel_rfl)
                clear hdep hsame hi hlate hfr hkeep
                have c126 : u.cell? ⟨g4, j * 34, none⟩ = some (.int .u8 (LV : Int)) := by simpa using RC.out u hbz 0 _ rfl
                exact .inl ⟨wanted_none rfl, showsO_pure hsn rfl (.int .u8 (LV : Int)) (by simp only [execOp, Act.eval]; go_simp) rfl⟩
              | 6, hi =>
                cases (show some _ = some o from hi)
                have e126 : (f.tmps.getD 126 undef) = .int .u8 (LV : Int) := depS (V := (VY24t j M4 g4 c4 LV IX)) hdep 5 126 (by decide) (by kernel_rfl)
                clear hdep hsame hi hlate hfr hkeep
                have f4 := FL.out
                exact .inl ⟨wanted_none rfl, showsO_pure hsn rfl (.bool true) (by simp only [execOp, Act.eval]; go_simp) rfl⟩
              | n + 7, hi => exact absurd hi (by simp)
            intro fr u2 own hsame hsn hall
            have q121 : fr.tmps.getD 121 undef = .slice (some ⟨g4, 0, none⟩) M4 c4 := finO (V := (VY24t j M4 g4 c4 LV IX)) hall 0 121 rfl
            have q122 : fr.tmps.getD 122 undef = .int .i64 (j : Int) := finO (V := (VY24t j M4 g4 c4 LV IX)) hall 1 122 rfl
            have q123 : fr.tmps.getD 123 undef = .pointer (some ⟨g4, j * 34, none⟩) := finO (V := (VY24t j M4 g4 c4 LV IX)) hall 2 123 rfl
            have q124 : fr.tmps.getD 124 undef = .pointer (some ⟨g4, j * 34, none⟩) := finO (V := (VY24t j M4 g4 c4 LV IX)) hall 3 124 rfl
            have q125 : fr.tmps.getD 125 undef = .pointer (some ⟨g4, j * 34, none⟩) := finO (V := (VY24t j M4 g4 c4 LV IX)) hall 4 125 rfl
            have q126 : fr.tmps.getD 126 undef = .int .u8 (LV : Int) := finO (V := (VY24t j M4 g4 c4 LV IX)) hall 5 126 rfl
            have q127 : fr.tmps.getD 127 undef = .bool true := finO (V := (VY24t j M4 g4 c4 LV IX)) hall 6 127 rfl
            obtain rfl := frame_eq hsame [(121, .slice (some ⟨g4, 0, none⟩) M4 c4), (122, .int .i64 (j : Int)), (123, .pointer (some ⟨g4, j * 34, none⟩)), (124, .pointer (some ⟨g4, j * 34, none⟩)), (125, .pointer (some ⟨g4, j * 34, none⟩)), (126, .int .u8 (LV : Int)), (127, .bool true)] (by kernel_rfl) ⟨q121, q122, q123, q124, q125, q126, q127, trivial⟩
            clear hall hsame q121 q122 q123 q124 q125 q126 q127
            simp only [List.foldl, List.setIfInBounds_toArray, List.set_cons_succ, List.set_cons_zero]
            have hb := hsn.below (B := wz.heap.size) (fun _ _ => rfl) (Nat.le_refl _)
            have BZ2 := Bx.mk (BZ.out.trans (hb.mono BZ.out.size))
            clear hb hsn
            have jb : j ≤ 1200 := by have := JL.out; have := ML4.out; omega
            go_wp2_with fail
            go_roundw
            case rel => exact ⟨j + 1, JL.out, by have := JL.out; have := ML4.out; go_num, BZ2.out⟩
            case measure => have := JL.out; simp [intOf]; omega
          · have FL : Bx (((LV : Int) == 0) = false) := ⟨by rw [beq_eq_false_iff_ne]; omega⟩
            obtain ⟨L0, rfl⟩ : ∃ L0, LV = L0 + 1 := ⟨LV - 1, by omega⟩
            clear hL0
            have hch := chi_all (L := L0) (I := IX) (by have := TR2.out; have := N6.out; omega)
            obtain ⟨IA, hIA⟩ : ∃ IA, IA = 2 * IX := ⟨_, rfl⟩
            obtain ⟨IB, hIB⟩ : ∃ IB, IB = 2 * IX + 1 := ⟨_, rfl⟩
            have CCH : Bx (∀ u, Calls Tryd.prog 24 #[.agg #[.int .u8 ((L0 + 1 : Nat) : Int), .int .u64 (IX : Int)]] u fun e w' => e = .returned (.tuple #[.agg #[.int .u8 (L0 : Int), .int .u64 (IA : Int)], .agg #[.int .u8 (L0 : Int), .int .u64 (IB : Int)], .bool true]) ∧ Below u.heap.size u w') := ⟨fun u => by
              have c := children_any u (L0 + 1) IX
              rw [hch.1, hch.2.1, hch.2.2.1, hch.2.2.2, ← hIB, ← hIA] at c
              exact c⟩
            have hp2 : (IX + 1) * (2 ^ L0 * 2) ≤ t := by have := TR2.out; rwa [Nat.pow_succ] at this
            have hA' : (IA + 1) * 2 ^ L0 ≤ t := by
              rw [hIA]
              refine Nat.le_trans (Nat.le_trans (Nat.mul_le_mul_right (2 ^ L0) (show 2 * IX + 1 ≤ (IX + 1) * 2 by omega)) ?_) hp2
              rw [Nat.mul_assoc, Nat.mul_comm 2]; exact Nat.le_refl _
            have hB' : (IB + 1) * 2 ^ L0 ≤ t := by
              rw [hIB]
              refine Nat.le_trans (Nat.le_trans (Nat.mul_le_mul_right (2 ^ L0) (show 2 * IX + 1 + 1 ≤ (IX + 1) * 2 by omega)) ?_) hp2
              rw [Nat.mul_assoc, Nat.mul_comm 2]; exact Nat.le_refl _
            obtain ⟨pa, fa1, fa2⟩ := fdB_alB f t (by have := N6.out; omega) L0 IA hA'
            obtain ⟨pb, fb1, fb2⟩ := fdB_alB f t (by have := N6.out; omega) L0 IB hB'
            rw [← HALN.out] at fa1 fb1
            obtain ⟨XA, hXA⟩ : ∃ XA, XA = trB f L0 IA := ⟨_, rfl⟩
            obtain ⟨XB, hXB⟩ : ∃ XB, XB = trB f L0 IB := ⟨_, rfl⟩
            have XA32 := Bx.mk (show XA.length = 32 by rw [hXA]; exact trB_length F32.out _ _); have XB32 := Bx.mk (show XB.length = 32 by rw [hXB]; exact trB_length F32.out _ _)
            have HND : Bx (HP = nd XA XB) := ⟨by rw [TR1.out, hXA, hXB, hIA, hIB]; rfl⟩
            have va : fdV ALN L0 IA = XA ∧ (fdB ALN L0 IA).isSome = true := by unfold fdV; rw [fa1, hXA]; exact ⟨fa2, rfl⟩
            have vb : fdV ALN L0 IB = XB ∧ (fdB ALN L0 IB).isSome = true := by unfold fdV; rw [fb1, hXB]; exact ⟨fb2, rfl⟩
            have CFA : Bx (∀ u, Below wr.heap.size wr u → Calls Tryd.prog 25 #[.slice (some ⟨g4, 0, none⟩) M4 c4, .agg #[.int .u8 (L0 : Int), .int .u64 (IA : Int)]] u fun e w' => e = .returned (.tuple #[.agg (ocells XA), .bool true]) ∧ Below u.heap.size u w') := ⟨fun u hu => by
              have c := find_any u _ _ _ ALN (NS4.out.below hu) L0 IA
              rw [va.1, va.2] at c
              exact c⟩
            have CFB : Bx (∀ u, Below wr.heap.size wr u → Calls Tryd.prog 25 #[.slice (some ⟨g4, 0, none⟩) M4 c4, .agg #[.int .u8 (L0 : Int), .int .u64 (IB : Int)]] u fun e w' => e = .returned (.tuple #[.agg (ocells XB), .bool true]) ∧ Below u.heap.size u w') := ⟨fun u hu => by
              have c := find_any u _ _ _ ALN (NS4.out.below hu) L0 IB
              rw [vb.1, vb.2] at c
              exact c⟩
            have CND : Bx (∀ u, Below wr.heap.size wr u → Calls Tryd.prog 21 #[.agg (ocells XA), .agg (ocells XB)] u fun e w' => e = .returned (.agg (ocells HP)) ∧ Below u.heap.size u w') := ⟨fun u hu => by
              have c := node_any u XA XB XA32.out XB32.out (EMr.out.below hu).hs.tab
              rwa [hv_agg, hv_agg, hv_agg, show sha (1 :: (XA ++ XB)) = nd XA XB from rfl, ← HND.out] at c⟩
            clear hch hIA hIB hp2 hA' hB' fa1 fa2 fb1 fb2 hXA hXB va vb
            obtain ⟨LV, hLV⟩ : ∃ LV, LV = L0 + 1 := ⟨_, rfl⟩
            rw [← hLV] at FL CCH RC
            clear hLV TR1 TR2 HND
            go_upto_region 24 with (fail)
            refine wp_region_seq8 (n := 176) VY24fmk (fun _ => none) (VY24f j M4 g4 c4 LV IX) (by kernel_rfl) rfl (fun _ _ => rfl) (fun j i hj _ => by cases hj) ?_ ?_ ?_
            · exact fun oi oj v own w own' w' hij h r => VY24f_mono j M4 g4 c4 LV IX oi oj v own w own' w' (by omega)  h r
            · intro oi o hi f u own hsame hsn hfr hlate hkeep8 hdep
              have hkeep := hkeep8 _ (Nat.le_refl _)
              have hb6 := hsn.below (B := wz.heap.size) (fun _ _ => rfl) (Nat.le_refl _)
              have hbz := BZ.out.trans (hb6.mono BZ.out.size)
              match oi, hi with
              | 0, hi =>
                cases (show some _ = some o from hi)
                have e4 : f.tmps.getD 4 undef = .slice (some ⟨g4, 0, none⟩) M4 c4 := hlate 4 (earlyS (by kernel_rfl))
                clear hdep hsame hi hlate hfr hkeep
                exact .inl ⟨wanted_none rfl, showsO_move hsn rfl _ rfl e4⟩
              | 1, hi =>
                cases (show some _ = some o from hi)
                have e12 : f.tmps.getD 12 undef = .int .i64 (j : Int) := hlate 12 (earlyS (by kernel_rfl))
                clear hdep hsame hi hlate hfr hkeep
                exact .inl ⟨wanted_none rfl, showsO_move hsn rfl _ rfl e12⟩
              | 2, hi =>
                cases (show some _ = some o from hi)
                have e121 : (f.tmps.getD 121 undef) = .slice (some ⟨g4, 0, none⟩) M4 c4 := depS (V := (VY24f j M4 g4 c4 LV IX)) hdep 0 121 (by decide) (by kernel_rfl)
                have e122 : (f.tmps.getD 122 undef) = .int .i64 (j : Int) := depS (V := (VY24f j M4 g4 c4 LV IX)) hdep 1 122 (by decide) (by kernel_rfl)
                clear hdep hsame hi hlate hfr hkeep
                have f2 : ¬ (M4 : Int) ≤ (j : Int) := by have := JL.out; omega
                have f3 : (j : Int) < (M4 : Int) := by have := JL.out; omega
                exact .inl ⟨wanted_none rfl, showsO_pure hsn rfl (.pointer (some ⟨g4, j * 34, none⟩)) (by simp only [execOp, Act.eval]; go_simp) rfl⟩
              | 3, hi =>
                cases (show some _ = some o from hi)
                have e123 : (f.tmps.getD 123 undef) = .pointer (some ⟨g4, j * 34, none⟩) := depS (V := (VY24f j M4 g4 c4 LV IX)) hdep 2 123 (by decide) (by kernel_rfl)
                clear hdep hsame hi hlate hfr hkeep
                exact .inl ⟨wanted_none rfl, showsO_pure hsn rfl (.pointer (some ⟨g4, j * 34, none⟩)) (by simp only [execOp, Act.eval]; go_simp) rfl⟩
              | 4, hi =>
                cases (show some _ = some o from hi)
                have e124 : (f.tmps.getD 124 undef) = .pointer (some ⟨g4, j * 34, none⟩) := depS (V := (VY24f j M4 g4 c4 LV IX)) hdep 3 124 (by decide) (by kernel_rfl)
                clear hdep hsame hi hlate hfr hkeep
                exact .inl ⟨wanted_none rfl, showsO_pure hsn rfl (.pointer (some ⟨g4, j * 34, none⟩)) (by simp only [execOp, Act.eval]; go_simp) rfl⟩
              | 5, hi =>
                cases (show some _ = some o from hi)
                have e125 : (f.tmps.getD 125 undef) = .pointer (some ⟨g4, j * 34, none⟩) := depS (V := (VY24f j M4 g4 c4 LV IX)) hdep 4 125 (by decide) (by kernel_rfl)
                clear hdep hsame hi hlate hfr hkeep
                have c126 : u.cell? ⟨g4, j * 34, none⟩ = some (.int .u8 (LV : Int)) := by simpa using RC.out u hbz 0 _ rfl
                exact .inl ⟨wanted_none rfl, showsO_pure hsn rfl (.int .u8 (LV : Int)) (by simp only [execOp, Act.eval]; go_simp) rfl⟩
              | 6, hi =>
                cases (show some _ = some o from hi)
                have e126 : (f.tmps.getD 126 undef) = .int .u8 (LV : Int) := depS (V := (VY24f j M4 g4 c4 LV IX)) hdep 5 126 (by decide) (by kernel_rfl)
                clear hdep hsame hi hlate hfr hkeep
                have f4 := FL.out
                exact .inl ⟨wanted_none rfl, showsO_pure hsn rfl (.bool false) (by simp only [execOp, Act.eval]; go_simp) rfl⟩
              | n + 7, hi => exact absurd hi (by simp)
            intro fr u2 own hsame hsn hall
            have q121 : fr.tmps.getD 121 undef = .slice (some ⟨g4, 0, none⟩) M4 c4 := finO (V := (VY24f j M4 g4 c4 LV IX)) hall 0 121 rfl
            have q122 : fr.tmps.getD 122 undef = .int .i64 (j : Int) := finO (V := (VY24f j M4 g4 c4 LV IX)) hall 1 122 rfl
            have q123 : fr.tmps.getD 123 undef = .pointer (some ⟨g4, j * 34, none⟩) := finO (V := (VY24f j M4 g4 c4 LV IX)) hall 2 123 rfl
            have q124 : fr.tmps.getD 124 undef = .pointer (some ⟨g4, j * 34, none⟩) := finO (V := (VY24f j M4 g4 c4 LV IX)) hall 3 124 rfl
            have q125 : fr.tmps.getD 125 undef = .pointer (some ⟨g4, j * 34, none⟩) := finO (V := (VY24f j M4 g4 c4 LV IX)) hall 4 125 rfl
            have q126 : fr.tmps.getD 126 undef = .int .u8 (LV : Int) := finO (V := (VY24f j M4 g4 c4 LV IX)) hall 5 126 rfl
            have q127 : fr.tmps.getD 127 undef = .bool false := finO (V := (VY24f j M4 g4 c4 LV IX)) hall 6 127 rfl
            obtain rfl := frame_eq hsame [(121, .slice (some ⟨g4, 0, none⟩) M4 c4), (122, .int .i64 (j : Int)), (123, .pointer (some ⟨g4, j * 34, none⟩)), (124, .pointer (some ⟨g4, j * 34, none⟩)), (125, .pointer (some ⟨g4, j * 34, none⟩)), (126, .int .u8 (LV : Int)), (127, .bool false)] (by kernel_rfl) ⟨q121, q122, q123, q124, q125, q126, q127, trivial⟩
            clear hall hsame q121 q122 q123 q124 q125 q126 q127
            simp only [List.foldl, List.setIfInBounds_toArray, List.set_cons_succ, List.set_cons_zero]
            have hb := hsn.below (B := wz.heap.size) (fun _ _ => rfl) (Nat.le_refl _)
            have BZ2 := Bx.mk (BZ.out.trans (hb.mono BZ.out.size))
            clear hb hsn
            go_upto_region 25 with (fail)
            refine wp_region_seq8 (n := 176) VY25mk (fun _ => none) (VY25 j M4 g4 c4 LV IX L0 IA IB) (by kernel_rfl) rfl (fun _ _ => rfl) (fun _ _ _ _ h => by cases h) ?_ ?_ ?_
            · exact fun oi oj v own w own' w' hij h r => VY25_mono j M4 g4 c4 LV IX L0 IA IB oi oj v own w own' w' (by omega)  h r
            · intro oi o hi f u own hsame hsn hfr hlate hkeep8 hdep
              have hkeep := hkeep8 _ (Nat.le_refl _)
              have hb6 := hsn.below (B := u2.heap.size) (fun _ _ => rfl) (Nat.le_refl _)
              have hbz := BZ2.out.trans (hb6.mono BZ2.out.size)
              match oi, hi with
              | 0, hi =>
                cases (show some _ = some o from hi)
                have e4 : f.tmps.getD 4 undef = .slice (some ⟨g4, 0, none⟩) M4 c4 := hlate 4 (earlyS (by kernel_rfl))
                clear hdep hsame hi hlate hfr hkeep
                exact .inl ⟨wanted_none rfl, showsO_move hsn rfl _ rfl e4⟩
              | 1, hi =>
                cases (show some _ = some o from hi)
                have e12 : f.tmps.getD 12 undef = .int .i64 (j : Int) := hlate 12 (earlyS (by kernel_rfl))
                clear hdep hsame hi hlate hfr hkeep
                exact .inl ⟨wanted_none rfl, showsO_move hsn rfl _ rfl e12⟩
              | 2, hi =>
                cases (show some _ = some o from hi)
                have e129 : (f.tmps.getD 129 undef) = .slice (some ⟨g4, 0, none⟩) M4 c4 := depS (V := (VY25 j M4 g4 c4 LV IX L0 IA IB)) hdep 0 129 (by decide) (by kernel_rfl)
                have e130 : (f.tmps.getD 130 undef) = .int .i64 (j : Int) := depS (V := (VY25 j M4 g4 c4 LV IX L0 IA IB)) hdep 1 130 (by decide) (by kernel_rfl)
                clear hdep hsame hi hlate hfr hkeep
                have f2 : ¬ (M4 : Int) ≤ (j : Int) := by have := JL.out; omega
                have f3 : (j : Int) < (M4 : Int) := by have := JL.out; omega
                exact .inl ⟨wanted_none rfl, showsO_pure hsn rfl (.pointer (some ⟨g4, j * 34, none⟩)) (by simp only [execOp, Act.eval]; go_simp) rfl⟩
              | 3, hi =>
                cases (show some _ = some o from hi)
                have e131 : (f.tmps.getD 131 undef) = .pointer (some ⟨g4, j * 34, none⟩) := depS (V := (VY25 j M4 g4 c4 LV IX L0 IA IB)) hdep 2 131 (by decide) (by kernel_rfl)
                clear hdep hsame hi hlate hfr hkeep
                exact .inl ⟨wanted_none rfl, showsO_pure hsn rfl (.pointer (some ⟨g4, j * 34, none⟩)) (by simp only [execOp, Act.eval]; go_simp) rfl⟩
              | 4, hi =>
                cases (show some _ = some o from hi)
                have e132 : (f.tmps.getD 132 undef) = .pointer (some ⟨g4, j * 34, none⟩) := depS (V := (VY25 j M4 g4 c4 LV IX L0 IA IB)) hdep 3 132 (by decide) (by kernel_rfl)
                clear hdep hsame hi hlate hfr hkeep
                exact .inl ⟨wanted_none rfl, showsO_mid hsn rfl 52 (.tmp 132) rfl g4 (j * 34) e132 [.int .u8 (LV : Int), .int .u64 (IX : Int)] (RC.out u hbz) Tryd.underlying52 rfl sizeC rfl⟩
              | 5, hi =>
                cases (show some _ = some o from hi)
                have e133 : (f.tmps.getD 133 undef) = .agg #[.int .u8 (LV : Int), .int .u64 (IX : Int)] := depS (V := (VY25 j M4 g4 c4 LV IX L0 IA IB)) hdep 4 133 (by decide) (by kernel_rfl)
                clear hdep hsame hi hlate hfr hkeep
                have c := CCH.out u
                exact .inl ⟨wanted_none rfl, showsO_call1 hsn rfl 24 #[.agg #[.int .u8 (LV : Int), .int .u64 (IX : Int)]] (by simp only [execOp, Act.eval]; go_simp) (c) (fun _ => rfl)⟩
              | 6, hi =>
                cases (show some _ = some o from hi)
                have e134 : (f.tmps.getD 134 undef) = .tuple #[.agg #[.int .u8 (L0 : Int), .int .u64 (IA : Int)], .agg #[.int .u8 (L0 : Int), .int .u64 (IB : Int)], .bool true] := depS (V := (VY25 j M4 g4 c4 LV IX L0 IA IB)) hdep 5 134 (by decide) (by kernel_rfl)
                clear hdep hsame hi hlate hfr hkeep
                exact .inl ⟨wanted_none rfl, showsO_move hsn rfl _ rfl e134⟩
              | 7, hi =>
                cases (show some _ = some o from hi)
                have e128 : (f.tmps.getD 128 undef) = .tuple #[.agg #[.int .u8 (L0 : Int), .int .u64 (IA : Int)], .agg #[.int .u8 (L0 : Int), .int .u64 (IB : Int)], .bool true] := depS (V := (VY25 j M4 g4 c4 LV IX L0 IA IB)) hdep 6 128 (by decide) (by kernel_rfl)
                clear hdep hsame hi hlate hfr hkeep
                exact .inl ⟨wanted_none rfl, showsO_pure hsn rfl (.agg #[.int .u8 (L0 : Int), .int .u64 (IA : Int)]) (by simp only [execOp, Act.eval]; go_simp) rfl⟩
              | 8, hi =>
                cases (show some _ = some o from hi)
                have e128 : (f.tmps.getD 128 undef) = .tuple #[.agg #[.int .u8 (L0 : Int), .int .u64 (IA : Int)], .agg #[.int .u8 (L0 : Int), .int .u64 (IB : Int)], .bool true] := depS (V := (VY25 j M4 g4 c4 LV IX L0 IA IB)) hdep 6 128 (by decide) (by kernel_rfl)
                clear hdep hsame hi hlate hfr hkeep
                exact .inl ⟨wanted_none rfl, showsO_pure hsn rfl (.agg #[.int .u8 (L0 : Int), .int .u64 (IB : Int)]) (by simp only [execOp, Act.eval]; go_simp) rfl⟩
              | 9, hi =>
                cases (show some _ = some o from hi)
                have e128 : (f.tmps.getD 128 undef) = .tuple #[.agg #[.int .u8 (L0 : Int), .int .u64 (IA : Int)], .agg #[.int .u8 (L0 : Int), .int .u64 (IB : Int)], .bool true] := depS (V := (VY25 j M4 g4 c4 LV IX L0 IA IB)) hdep 6 128 (by decide) (by kernel_rfl)
                clear hdep hsame hi hlate hfr hkeep
                exact .inl ⟨wanted_none rfl, showsO_pure hsn rfl (.bool true) (by simp only [execOp, Act.eval]; go_simp) rfl⟩
              | 10, hi =>
                cases (show some _ = some o from hi)
                clear hdep hsame hi hlate hkeep
                exact .inl ⟨wanted_none rfl, showsO_alloc hsn hfr rfl #[.int .u8 0, .int .u64 0] 52 12 rfl (by simp only [execOp, Act.eval]; go_simp <;> rfl) (fun h => h)⟩
              | 11, hi =>
                cases (show some _ = some o from hi)
                clear hdep hsame hi hlate hkeep
                exact .inl ⟨wanted_none rfl, showsO_alloc hsn hfr rfl #[.int .u8 0, .int .u64 0] 52 13 rfl (by simp only [execOp, Act.eval]; go_simp <;> rfl) (fun h => h)⟩
              | 12, hi =>
                cases (show some _ = some o from hi)
                have e13 : AllocV own u (f.tmps.getD 13 undef) 12 52 2 := depS (V := (VY25 j M4 g4 c4 LV IX L0 IA IB)) hdep 10 13 (by decide) (by kernel_rfl)
                have e135 : (f.tmps.getD 135 undef) = .agg #[.int .u8 (L0 : Int), .int .u64 (IA : Int)] := depS (V := (VY25 j M4 g4 c4 LV IX L0 IA IB)) hdep 7 135 (by decide) (by kernel_rfl)
                clear hdep hsame hi hlate hfr hkeep
                exact .inl ⟨wanted_none rfl, showsO_store_alloc hsn rfl 52 (.tmp 13) (.tmp 135) rfl e13 #[.int .u8 (L0 : Int), .int .u64 (IA : Int)] e135 sizeC rfl (by simp [Value.oneCell']) (fun _ h => h)⟩
              | 13, hi =>
                cases (show some _ = some o from hi)
                have e14 : AllocV own u (f.tmps.getD 14 undef) 13 52 2 := depS (V := (VY25 j M4 g4 c4 LV IX L0 IA IB)) hdep 11 14 (by decide) (by kernel_rfl)
                have e136 : (f.tmps.getD 136 undef) = .agg #[.int .u8 (L0 : Int), .int .u64 (IB : Int)] := depS (V := (VY25 j M4 g4 c4 LV IX L0 IA IB)) hdep 8 136 (by decide) (by kernel_rfl)
                clear hdep hsame hi hlate hfr hkeep
                exact .inl ⟨wanted_none rfl, showsO_store_alloc hsn rfl 52 (.tmp 14) (.tmp 136) rfl e14 #[.int .u8 (L0 : Int), .int .u64 (IB : Int)] e136 sizeC rfl (by simp [Value.oneCell']) (fun _ h => h)⟩
              | 14, hi =>
                cases (show some _ = some o from hi)
                have e137 : (f.tmps.getD 137 undef) = .bool true := depS (V := (VY25 j M4 g4 c4 LV IX L0 IA IB)) hdep 9 137 (by decide) (by kernel_rfl)
                clear hdep hsame hi hlate hfr hkeep
                exact .inl ⟨wanted_none rfl, showsO_assign hsn rfl _ rfl e137⟩
              | n + 15, hi => exact absurd hi (by simp)
            intro fr u3 own hsame hsn hall
            have q129 : fr.tmps.getD 129 undef = .slice (some ⟨g4, 0, none⟩) M4 c4 := finO (V := (VY25 j M4 g4 c4 LV IX L0 IA IB)) hall 0 129 rfl
            have q130 : fr.tmps.getD 130 undef = .int .i64 (j : Int) := finO (V := (VY25 j M4 g4 c4 LV IX L0 IA IB)) hall 1 130 rfl
            have q131 : fr.tmps.getD 131 undef = .pointer (some ⟨g4, j * 34, none⟩) := finO (V := (VY25 j M4 g4 c4 LV IX L0 IA IB)) hall 2 131 rfl
            have q132 : fr.tmps.getD 132 undef = .pointer (some ⟨g4, j * 34, none⟩) := finO (V := (VY25 j M4 g4 c4 LV IX L0 IA IB)) hall 3 132 rfl
            have q133 : fr.tmps.getD 133 undef = .agg #[.int .u8 (LV : Int), .int .u64 (IX : Int)] := finO (V := (VY25 j M4 g4 c4 LV IX L0 IA IB)) hall 4 133 rfl
            have q134 : fr.tmps.getD 134 undef = .tuple #[.agg #[.int .u8 (L0 : Int), .int .u64 (IA : Int)], .agg #[.int .u8 (L0 : Int), .int .u64 (IB : Int)], .bool true] := finO (V := (VY25 j M4 g4 c4 LV IX L0 IA IB)) hall 5 134 rfl
            have q128 : fr.tmps.getD 128 undef = .tuple #[.agg #[.int .u8 (L0 : Int), .int .u64 (IA : Int)], .agg #[.int .u8 (L0 : Int), .int .u64 (IB : Int)], .bool true] := finO (V := (VY25 j M4 g4 c4 LV IX L0 IA IB)) hall 6 128 rfl
            have q135 : fr.tmps.getD 135 undef = .agg #[.int .u8 (L0 : Int), .int .u64 (IA : Int)] := finO (V := (VY25 j M4 g4 c4 LV IX L0 IA IB)) hall 7 135 rfl
            have q136 : fr.tmps.getD 136 undef = .agg #[.int .u8 (L0 : Int), .int .u64 (IB : Int)] := finO (V := (VY25 j M4 g4 c4 LV IX L0 IA IB)) hall 8 136 rfl
            have q137 : fr.tmps.getD 137 undef = .bool true := finO (V := (VY25 j M4 g4 c4 LV IX L0 IA IB)) hall 9 137 rfl
            obtain ⟨g13, q13, o13, m13⟩ := AllocV.stored (finO (V := (VY25 j M4 g4 c4 LV IX L0 IA IB)) hall 10 13 rfl) (finN (V := (VY25 j M4 g4 c4 LV IX L0 IA IB)) hall 12 rfl)
            obtain ⟨g14, q14, o14, m14⟩ := AllocV.stored (finO (V := (VY25 j M4 g4 c4 LV IX L0 IA IB)) hall 11 14 rfl) (finN (V := (VY25 j M4 g4 c4 LV IX L0 IA IB)) hall 13 rfl)
            have q15 : fr.tmps.getD 15 undef = .bool true := finO (V := (VY25 j M4 g4 c4 LV IX L0 IA IB)) hall 14 15 rfl
            obtain rfl := frame_eq hsame [(129, .slice (some ⟨g4, 0, none⟩) M4 c4), (130, .int .i64 (j : Int)), (131, .pointer (some ⟨g4, j * 34, none⟩)), (132, .pointer (some ⟨g4, j * 34, none⟩)), (133, .agg #[.int .u8 (LV : Int), .int .u64 (IX : Int)]), (134, .tuple #[.agg #[.int .u8 (L0 : Int), .int .u64 (IA : Int)], .agg #[.int .u8 (L0 : Int), .int .u64 (IB : Int)], .bool true]), (128, .tuple #[.agg #[.int .u8 (L0 : Int), .int .u64 (IA : Int)], .agg #[.int .u8 (L0 : Int), .int .u64 (IB : Int)], .bool true]), (135, .agg #[.int .u8 (L0 : Int), .int .u64 (IA : Int)]), (136, .agg #[.int .u8 (L0 : Int), .int .u64 (IB : Int)]), (137, .bool true), (13, .pointer (some ⟨g13, 0, none⟩)), (14, .pointer (some ⟨g14, 0, none⟩)), (15, .bool true)] (by kernel_rfl) ⟨q129, q130, q131, q132, q133, q134, q128, q135, q136, q137, q13, q14, q15, trivial⟩
            clear hall hsame q129 q130 q131 q132 q133 q134 q128 q135 q136 q137 q13 q14 q15
            simp only [List.foldl, List.setIfInBounds_toArray, List.set_cons_succ, List.set_cons_zero]
            have hb := hsn.below (B := u2.heap.size) (fun _ _ => rfl) (Nat.le_refl _)
            have BZ3 := Bx.mk (BZ2.out.trans (hb.mono BZ2.out.size)); have M13 := Bx.mk m13; have M14 := Bx.mk m14
            clear hb hsn m13 m14 o13 o14 CCH
            go_upto_region 26 with (fail)
            refine wp_region_seq8 (n := 176) VY26mk (fun _ => none) (VY26 M4 g4 c4 L0 IA IB g13 g14 XA) (by kernel_rfl) rfl (fun _ _ => rfl) (fun _ _ _ _ h => by cases h) ?_ ?_ ?_
            · exact fun oi oj v own w own' w' hij h r => VY26_mono M4 g4 c4 L0 IA IB g13 g14 XA oi oj v own w own' w' (by omega)  h r
            · intro oi o hi f u own hsame hsn hfr hlate hkeep8 hdep
              have hkeep := hkeep8 _ (Nat.le_refl _)
              have hb6 := hsn.below (B := u3.heap.size) (fun _ _ => rfl) (Nat.le_refl _)
              have hbz := BZ3.out.trans (hb6.mono BZ3.out.size)
              match oi, hi with
              | 0, hi =>
                cases (show some _ = some o from hi)
                have e4 : f.tmps.getD 4 undef = .slice (some ⟨g4, 0, none⟩) M4 c4 := hlate 4 (earlyS (by kernel_rfl))
                clear hdep hsame hi hlate hfr hkeep
                exact .inl ⟨wanted_none rfl, showsO_move hsn rfl _ rfl e4⟩
              | 1, hi =>
                cases (show some _ = some o from hi)
                have e13 : f.tmps.getD 13 undef = .pointer (some ⟨g13, 0, none⟩) := hlate 13 (earlyS (by kernel_rfl))
                clear hdep hsame hi hlate hfr hkeep
                exact .inl ⟨wanted_none rfl, showsO_row hsn rfl 52 (.tmp 13) rfl g13 e13 #[.int .u8 (L0 : Int), .int .u64 (IA : Int)] ((hb6.block _ (Array.getElem?_eq_some_iff.1 M13.out).1).trans M13.out) Tryd.underlying52 rfl sizeC rfl⟩
              | 2, hi =>
                cases (show some _ = some o from hi)
                have e139 : (f.tmps.getD 139 undef) = .slice (some ⟨g4, 0, none⟩) M4 c4 := depS (V := (VY26 M4 g4 c4 L0 IA IB g13 g14 XA)) hdep 0 139 (by decide) (by kernel_rfl)
                have e140 : (f.tmps.getD 140 undef) = .agg #[.int .u8 (L0 : Int), .int .u64 (IA : Int)] := depS (V := (VY26 M4 g4 c4 L0 IA IB g13 g14 XA)) hdep 1 140 (by decide) (by kernel_rfl)
                clear hdep hsame hi hlate hfr hkeep
                have c := CFA.out u hbz
                exact .inl ⟨wanted_none rfl, showsO_call1 hsn rfl 25 #[.slice (some ⟨g4, 0, none⟩) M4 c4, .agg #[.int .u8 (L0 : Int), .int .u64 (IA : Int)]] (by simp only [execOp, Act.eval]; go_simp) (c) (fun _ => rfl)⟩
              | 3, hi =>
                cases (show some _ = some o from hi)
                have e141 : (f.tmps.getD 141 undef) = .tuple #[.agg (ocells XA), .bool true] := depS (V := (VY26 M4 g4 c4 L0 IA IB g13 g14 XA)) hdep 2 141 (by decide) (by kernel_rfl)
                clear hdep hsame hi hlate hfr hkeep
                exact .inl ⟨wanted_none rfl, showsO_move hsn rfl _ rfl e141⟩
              | 4, hi =>
                cases (show some _ = some o from hi)
                have e138 : (f.tmps.getD 138 undef) = .tuple #[.agg (ocells XA), .bool true] := depS (V := (VY26 M4 g4 c4 L0 IA IB g13 g14 XA)) hdep 3 138 (by decide) (by kernel_rfl)
                clear hdep hsame hi hlate hfr hkeep
                exact .inl ⟨wanted_none rfl, showsO_pure hsn rfl (.agg (ocells XA)) (by simp only [execOp, Act.eval]; go_simp) rfl⟩
              | 5, hi =>
                cases (show some _ = some o from hi)
                have e138 : (f.tmps.getD 138 undef) = .tuple #[.agg (ocells XA), .bool true] := depS (V := (VY26 M4 g4 c4 L0 IA IB g13 g14 XA)) hdep 3 138 (by decide) (by kernel_rfl)
                clear hdep hsame hi hlate hfr hkeep
                exact .inl ⟨wanted_none rfl, showsO_pure hsn rfl (.bool true) (by simp only [execOp, Act.eval]; go_simp) rfl⟩
              | 6, hi =>
                cases (show some _ = some o from hi)
                clear hdep hsame hi hlate hkeep
                exact .inl ⟨wanted_none rfl, showsO_alloc hsn hfr rfl zeros32 33 7 rfl (by simp only [execOp, Act.eval]; go_simp; rfl) (fun h => h)⟩
              | 7, hi =>
                cases (show some _ = some o from hi)
                have e16 : AllocV own u (f.tmps.getD 16 undef) 7 33 32 := depS (V := (VY26 M4 g4 c4 L0 IA IB g13 g14 XA)) hdep 6 16 (by decide) (by kernel_rfl)
                have e142 : (f.tmps.getD 142 undef) = .agg (ocells XA) := depS (V := (VY26 M4 g4 c4 L0 IA IB g13 g14 XA)) hdep 4 142 (by decide) (by kernel_rfl)
                clear hdep hsame hi hlate hfr hkeep
                exact .inl ⟨wanted_none rfl, showsO_store_alloc hsn rfl 33 (.tmp 16) (.tmp 142) rfl e16 (ocells (XA)) e142 (hszL XA32.out) (by rw [ocells_size, XA32.out]) (ocells_one _) (fun _ h => h)⟩
              | 8, hi =>
                cases (show some _ = some o from hi)
                have e143 : (f.tmps.getD 143 undef) = .bool true := depS (V := (VY26 M4 g4 c4 L0 IA IB g13 g14 XA)) hdep 5 143 (by decide) (by kernel_rfl)
                clear hdep hsame hi hlate hfr hkeep
                exact .inl ⟨wanted_none rfl, showsO_assign hsn rfl _ rfl e143⟩
              | n + 9, hi => exact absurd hi (by simp)
            intro fr u4 own hsame hsn hall
            have q139 : fr.tmps.getD 139 undef = .slice (some ⟨g4, 0, none⟩) M4 c4 := finO (V := (VY26 M4 g4 c4 L0 IA IB g13 g14 XA)) hall 0 139 rfl
            have q140 : fr.tmps.getD 140 undef = .agg #[.int .u8 (L0 : Int), .int .u64 (IA : Int)] := finO (V := (VY26 M4 g4 c4 L0 IA IB g13 g14 XA)) hall 1 140 rfl
            have q141 : fr.tmps.getD 141 undef = .tuple #[.agg (ocells XA), .bool true] := finO (V := (VY26 M4 g4 c4 L0 IA IB g13 g14 XA)) hall 2 141 rfl
            have q138 : fr.tmps.getD 138 undef = .tuple #[.agg (ocells XA), .bool true] := finO (V := (VY26 M4 g4 c4 L0 IA IB g13 g14 XA)) hall 3 138 rfl
            have q142 : fr.tmps.getD 142 undef = .agg (ocells XA) := finO (V := (VY26 M4 g4 c4 L0 IA IB g13 g14 XA)) hall 4 142 rfl
            have q143 : fr.tmps.getD 143 undef = .bool true := finO (V := (VY26 M4 g4 c4 L0 IA IB g13 g14 XA)) hall 5 143 rfl
            obtain ⟨g16, q16, o16, m16⟩ := AllocV.stored (finO (V := (VY26 M4 g4 c4 L0 IA IB g13 g14 XA)) hall 6 16 rfl) (finN (V := (VY26 M4 g4 c4 L0 IA IB g13 g14 XA)) hall 7 rfl)
            have q17 : fr.tmps.getD 17 undef = .bool true := finO (V := (VY26 M4 g4 c4 L0 IA IB g13 g14 XA)) hall 8 17 rfl
            obtain rfl := frame_eq hsame [(139, .slice (some ⟨g4, 0, none⟩) M4 c4), (140, .agg #[.int .u8 (L0 : Int), .int .u64 (IA : Int)]), (141, .tuple #[.agg (ocells XA), .bool true]), (138, .tuple #[.agg (ocells XA), .bool true]), (142, .agg (ocells XA)), (143, .bool true), (16, .pointer (some ⟨g16, 0, none⟩)), (17, .bool true)] (by kernel_rfl) ⟨q139, q140, q141, q138, q142, q143, q16, q17, trivial⟩
            clear hall hsame q139 q140 q141 q138 q142 q143 q16 q17
            simp only [List.foldl, List.setIfInBounds_toArray, List.set_cons_succ, List.set_cons_zero]
            have hb := hsn.below (B := u3.heap.size) (fun _ _ => rfl) (Nat.le_refl _)
            have BZ4 := Bx.mk (BZ3.out.trans (hb.mono BZ3.out.size)); have M16 := Bx.mk m16; have M144 := Bx.mk ((hb.block _ (Array.getElem?_eq_some_iff.1 M14.out).1).trans M14.out)
            clear hb hsn m16 o16 CFA M13 M14
            go_upto_region 27 with (fail)
            refine wp_region_seq8 (n := 176) VY27mk (fun _ => none) (VY27 M4 g4 c4 L0 IA IB g13 g14 XB) (by kernel_rfl) rfl (fun _ _ => rfl) (fun _ _ _ _ h => by cases h) ?_ ?_ ?_
            · exact fun oi oj v own w own' w' hij h r => VY27_mono M4 g4 c4 L0 IA IB g13 g14 XB oi oj v own w own' w' (by omega)  h r
            · intro oi o hi f u own hsame hsn hfr hlate hkeep8 hdep
              have hkeep := hkeep8 _ (Nat.le_refl _)
              have hb6 := hsn.below (B := u4.heap.size) (fun _ _ => rfl) (Nat.le_refl _)
              have hbz := BZ4.out.trans (hb6.mono BZ4.out.size)
              match oi, hi with
              | 0, hi =>
                cases (show some _ = some o from hi)
                have e4 : f.tmps.getD 4 undef = .slice (some ⟨g4, 0, none⟩) M4 c4 := hlate 4 (earlyS (by kernel_rfl))
                clear hdep hsame hi hlate hfr hkeep
                exact .inl ⟨wanted_none rfl, showsO_move hsn rfl _ rfl e4⟩
              | 1, hi =>
                cases (show some _ = some o from hi)
                have e14 : f.tmps.getD 14 undef = .pointer (some ⟨g14, 0, none⟩) := hlate 14 (earlyS (by kernel_rfl))
                clear hdep hsame hi hlate hfr hkeep
                exact .inl ⟨wanted_none rfl, showsO_row hsn rfl 52 (.tmp 14) rfl g14 e14 #[.int .u8 (L0 : Int), .int .u64 (IB : Int)] ((hb6.block _ (Array.getElem?_eq_some_iff.1 M144.out).1).trans M144.out) Tryd.underlying52 rfl sizeC rfl⟩
              | 2, hi =>
                cases (show some _ = some o from hi)
                have e145 : (f.tmps.getD 145 undef) = .slice (some ⟨g4, 0, none⟩) M4 c4 := depS (V := (VY27 M4 g4 c4 L0 IA IB g13 g14 XB)) hdep 0 145 (by decide) (by kernel_rfl)
                have e146 : (f.tmps.getD 146 undef) = .agg #[.int .u8 (L0 : Int), .int .u64 (IB : Int)] := depS (V := (VY27 M4 g4 c4 L0 IA IB g13 g14 XB)) hdep 1 146 (by decide) (by kernel_rfl)
                clear hdep hsame hi hlate hfr hkeep
                have c := CFB.out u hbz
                exact .inl ⟨wanted_none rfl, showsO_call1 hsn rfl 25 #[.slice (some ⟨g4, 0, none⟩) M4 c4, .agg #[.int .u8 (L0 : Int), .int .u64 (IB : Int)]] (by simp only [execOp, Act.eval]; go_simp) (c) (fun _ => rfl)⟩
              | 3, hi =>
                cases (show some _ = some o from hi)
                have e147 : (f.tmps.getD 147 undef) = .tuple #[.agg (ocells XB), .bool true] := depS (V := (VY27 M4 g4 c4 L0 IA IB g13 g14 XB)) hdep 2 147 (by decide) (by kernel_rfl)
                clear hdep hsame hi hlate hfr hkeep
                exact .inl ⟨wanted_none rfl, showsO_move hsn rfl _ rfl e147⟩
              | 4, hi =>
                cases (show some _ = some o from hi)
                have e144 : (f.tmps.getD 144 undef) = .tuple #[.agg (ocells XB), .bool true] := depS (V := (VY27 M4 g4 c4 L0 IA IB g13 g14 XB)) hdep 3 144 (by decide) (by kernel_rfl)
                clear hdep hsame hi hlate hfr hkeep
                exact .inl ⟨wanted_none rfl, showsO_pure hsn rfl (.agg (ocells XB)) (by simp only [execOp, Act.eval]; go_simp) rfl⟩
              | 5, hi =>
                cases (show some _ = some o from hi)
                have e144 : (f.tmps.getD 144 undef) = .tuple #[.agg (ocells XB), .bool true] := depS (V := (VY27 M4 g4 c4 L0 IA IB g13 g14 XB)) hdep 3 144 (by decide) (by kernel_rfl)
                clear hdep hsame hi hlate hfr hkeep
                exact .inl ⟨wanted_none rfl, showsO_pure hsn rfl (.bool true) (by simp only [execOp, Act.eval]; go_simp) rfl⟩
              | 6, hi =>
                cases (show some _ = some o from hi)
                clear hdep hsame hi hlate hkeep
                exact .inl ⟨wanted_none rfl, showsO_alloc hsn hfr rfl zeros32 33 7 rfl (by simp only [execOp, Act.eval]; go_simp; rfl) (fun h => h)⟩
              | 7, hi =>
                cases (show some _ = some o from hi)
                have e18 : AllocV own u (f.tmps.getD 18 undef) 7 33 32 := depS (V := (VY27 M4 g4 c4 L0 IA IB g13 g14 XB)) hdep 6 18 (by decide) (by kernel_rfl)
                have e148 : (f.tmps.getD 148 undef) = .agg (ocells XB) := depS (V := (VY27 M4 g4 c4 L0 IA IB g13 g14 XB)) hdep 4 148 (by decide) (by kernel_rfl)
                clear hdep hsame hi hlate hfr hkeep
                exact .inl ⟨wanted_none rfl, showsO_store_alloc hsn rfl 33 (.tmp 18) (.tmp 148) rfl e18 (ocells (XB)) e148 (hszL XB32.out) (by rw [ocells_size, XB32.out]) (ocells_one _) (fun _ h => h)⟩
              | 8, hi =>
                cases (show some _ = some o from hi)
                have e149 : (f.tmps.getD 149 undef) = .bool true := depS (V := (VY27 M4 g4 c4 L0 IA IB g13 g14 XB)) hdep 5 149 (by decide) (by kernel_rfl)
                clear hdep hsame hi hlate hfr hkeep
                exact .inl ⟨wanted_none rfl, showsO_assign hsn rfl _ rfl e149⟩
              | n + 9, hi => exact absurd hi (by simp)
            intro fr u5 own hsame hsn hall
            have q145 : fr.tmps.getD 145 undef = .slice (some ⟨g4, 0, none⟩) M4 c4 := finO (V := (VY27 M4 g4 c4 L0 IA IB g13 g14 XB)) hall 0 145 rfl
            have q146 : fr.tmps.getD 146 undef = .agg #[.int .u8 (L0 : Int), .int .u64 (IB : Int)] := finO (V := (VY27 M4 g4 c4 L0 IA IB g13 g14 XB)) hall 1 146 rfl
            have q147 : fr.tmps.getD 147 undef = .tuple #[.agg (ocells XB), .bool true] := finO (V := (VY27 M4 g4 c4 L0 IA IB g13 g14 XB)) hall 2 147 rfl
            have q144 : fr.tmps.getD 144 undef = .tuple #[.agg (ocells XB), .bool true] := finO (V := (VY27 M4 g4 c4 L0 IA IB g13 g14 XB)) hall 3 144 rfl
            have q148 : fr.tmps.getD 148 undef = .agg (ocells XB) := finO (V := (VY27 M4 g4 c4 L0 IA IB g13 g14 XB)) hall 4 148 rfl
            have q149 : fr.tmps.getD 149 undef = .bool true := finO (V := (VY27 M4 g4 c4 L0 IA IB g13 g14 XB)) hall 5 149 rfl
            obtain ⟨g18, q18, o18, m18⟩ := AllocV.stored (finO (V := (VY27 M4 g4 c4 L0 IA IB g13 g14 XB)) hall 6 18 rfl) (finN (V := (VY27 M4 g4 c4 L0 IA IB g13 g14 XB)) hall 7 rfl)
            have q19 : fr.tmps.getD 19 undef = .bool true := finO (V := (VY27 M4 g4 c4 L0 IA IB g13 g14 XB)) hall 8 19 rfl
            obtain rfl := frame_eq hsame [(145, .slice (some ⟨g4, 0, none⟩) M4 c4), (146, .agg #[.int .u8 (L0 : Int), .int .u64 (IB : Int)]), (147, .tuple #[.agg (ocells XB), .bool true]), (144, .tuple #[.agg (ocells XB), .bool true]), (148, .agg (ocells XB)), (149, .bool true), (18, .pointer (some ⟨g18, 0, none⟩)), (19, .bool true)] (by kernel_rfl) ⟨q145, q146, q147, q144, q148, q149, q18, q19, trivial⟩
            clear hall hsame q145 q146 q147 q144 q148 q149 q18 q19
            simp only [List.foldl, List.setIfInBounds_toArray, List.set_cons_succ, List.set_cons_zero]
            have hb := hsn.below (B := u4.heap.size) (fun _ _ => rfl) (Nat.le_refl _)
            have BZ5 := Bx.mk (BZ4.out.trans (hb.mono BZ4.out.size)); have M18 := Bx.mk m18; have M165 := Bx.mk ((hb.block _ (Array.getElem?_eq_some_iff.1 M16.out).1).trans M16.out)
            clear hb hsn m18 o18 CFB M144 M16
            go_upto_region 28 with (fail)
            refine wp_region_own8 (n := 176) VY28mk (fun _ => none) (VY28 j M4 g4 c4 g16 g18 XA XB HP) (by kernel_rfl) (by kernel_rfl) rfl (fun _ _ => rfl) (fun j i hj _ => by cases hj) ?_ ?_ ?_
            · exact fun oi oj v own w own' w' hij _ h r => VY28_mono j M4 g4 c4 g16 g18 XA XB HP oi oj v own w own' w' hij h r
            · intro oi o hi f u own hsame hsn hfr hlate hkeep8 hdep
              have hkeep := hkeep8 _ (.inl rfl)
              have hb6 := hsn.below (B := u5.heap.size) (fun _ _ => rfl) (Nat.le_refl _)
              have hbz := BZ5.out.trans (hb6.mono BZ5.out.size)
              match oi, hi with
              | 0, hi =>
                cases (show some _ = some o from hi)
                have e15 : f.tmps.getD 15 undef = .bool true := hsame.slot 15 (fun i o h => invB2_not 15 (by kernel_rfl) h)
                clear hdep hsame hi hlate hfr hkeep
                exact .inl ⟨wanted_none rfl, showsO_move hsn rfl _ rfl e15⟩
              | 1, hi =>
                cases (show some _ = some o from hi)
                have e150 : (f.tmps.getD 150 undef) = .bool true := depO (V := (VY28 j M4 g4 c4 g16 g18 XA XB HP)) hdep 0 150 (by kernel_rfl) (by kernel_rfl)
                clear hdep hsame hi hlate hfr hkeep
                exact .inl ⟨wanted_none rfl, showsO_pure hsn rfl (.bool false) (by simp only [execOp, Act.eval]; go_simp) rfl⟩
              | 2, hi =>
                cases (show some _ = some o from hi)
                have e151 : (f.tmps.getD 151 undef) = .bool false := depO (V := (VY28 j M4 g4 c4 g16 g18 XA XB HP)) hdep 1 151 (by kernel_rfl) (by kernel_rfl)
                clear hdep hsame hi hlate hfr hkeep
                exact .inl ⟨wanted_none rfl, showsO_move hsn rfl _ rfl e151⟩
              | 3, hi =>
                cases (show some _ = some o from hi)
                have e17 : f.tmps.getD 17 undef = .bool true := hsame.slot 17 (fun i o h => invB2_not 17 (by kernel_rfl) h)
                have eg : f.tmps.getD 152 undef = .bool false := depO (V := (VY28 j M4 g4 c4 g16 g18 XA XB HP)) hdep 2 152 (by kernel_rfl) (by kernel_rfl)
                clear hdep hsame hi hlate hfr hkeep
                exact .inl ⟨wanted_of 2 rfl eg (by kernel_rfl), showsO_move hsn rfl _ rfl e17⟩
              | 4, hi =>
                cases (show some _ = some o from hi)
                have e153 : (f.tmps.getD 153 undef) = .bool true := depO (V := (VY28 j M4 g4 c4 g16 g18 XA XB HP)) hdep 3 153 (by kernel_rfl) (by kernel_rfl)
                have eg : f.tmps.getD 152 undef = .bool false := depO (V := (VY28 j M4 g4 c4 g16 g18 XA XB HP)) hdep 2 152 (by kernel_rfl) (by kernel_rfl)
                clear hdep hsame hi hlate hfr hkeep
                exact .inl ⟨wanted_of 2 rfl eg (by kernel_rfl), showsO_pure hsn rfl (.bool false) (by simp only [execOp, Act.eval]; go_simp) rfl⟩
              | 5, hi =>
                cases (show some _ = some o from hi)
                have e152 : (f.tmps.getD 152 undef) = .bool false := depO (V := (VY28 j M4 g4 c4 g16 g18 XA XB HP)) hdep 2 152 (by kernel_rfl) (by kernel_rfl)
                have e154 : (f.tmps.getD 154 undef) = .bool false := depO (V := (VY28 j M4 g4 c4 g16 g18 XA XB HP)) hdep 4 154 (by kernel_rfl) (by kernel_rfl)
                clear hdep hsame hi hlate hfr hkeep
                exact .inl ⟨wanted_none rfl, showsO_pure hsn rfl (.bool false) (by simp only [execOp, Act.eval]; go_simp) rfl⟩
              | 6, hi =>
                cases (show some _ = some o from hi)
                have e155 : (f.tmps.getD 155 undef) = .bool false := depO (V := (VY28 j M4 g4 c4 g16 g18 XA XB HP)) hdep 5 155 (by kernel_rfl) (by kernel_rfl)
                clear hdep hsame hi hlate hfr hkeep
                exact .inl ⟨wanted_none rfl, showsO_move hsn rfl _ rfl e155⟩
              | 7, hi =>
                cases (show some _ = some o from hi)
                have e19 : f.tmps.getD 19 undef = .bool true := hsame.slot 19 (fun i o h => invB2_not 19 (by kernel_rfl) h)
                have eg : f.tmps.getD 156 undef = .bool false := depO (V := (VY28 j M4 g4 c4 g16 g18 XA XB HP)) hdep 6 156 (by kernel_rfl) (by kernel_rfl)
                clear hdep hsame hi hlate hfr hkeep
                exact .inl ⟨wanted_of 6 rfl eg (by kernel_rfl), showsO_move hsn rfl _ rfl e19⟩
              | 8, hi =>
                cases (show some _ = some o from hi)
                have e157 : (f.tmps.getD 157 undef) = .bool true := depO (V := (VY28 j M4 g4 c4 g16 g18 XA XB HP)) hdep 7 157 (by kernel_rfl) (by kernel_rfl)
                have eg : f.tmps.getD 156 undef = .bool false := depO (V := (VY28 j M4 g4 c4 g16 g18 XA XB HP)) hdep 6 156 (by kernel_rfl) (by kernel_rfl)
                clear hdep hsame hi hlate hfr hkeep
                exact .inl ⟨wanted_of 6 rfl eg (by kernel_rfl), showsO_pure hsn rfl (.bool false) (by simp only [execOp, Act.eval]; go_simp) rfl⟩
              | 9, hi =>
                cases (show some _ = some o from hi)
                have e156 : (f.tmps.getD 156 undef) = .bool false := depO (V := (VY28 j M4 g4 c4 g16 g18 XA XB HP)) hdep 6 156 (by kernel_rfl) (by kernel_rfl)
                have e158 : (f.tmps.getD 158 undef) = .bool false := depO (V := (VY28 j M4 g4 c4 g16 g18 XA XB HP)) hdep 8 158 (by kernel_rfl) (by kernel_rfl)
                clear hdep hsame hi hlate hfr hkeep
                exact .inl ⟨wanted_none rfl, showsO_pure hsn rfl (.bool false) (by simp only [execOp, Act.eval]; go_simp) rfl⟩
              | 10, hi =>
                cases (show some _ = some o from hi)
                have e159 : (f.tmps.getD 159 undef) = .bool false := depO (V := (VY28 j M4 g4 c4 g16 g18 XA XB HP)) hdep 9 159 (by kernel_rfl) (by kernel_rfl)
                clear hdep hsame hi hlate hfr hkeep
                exact .inl ⟨wanted_none rfl, showsO_move hsn rfl _ rfl e159⟩
              | 11, hi =>
                cases (show some _ = some o from hi)
                have e4 : f.tmps.getD 4 undef = .slice (some ⟨g4, 0, none⟩) M4 c4 := hsame.slot 4 (fun i o h => invB2_not 4 (by kernel_rfl) h)
                have eg : f.tmps.getD 160 undef = .bool false := depO (V := (VY28 j M4 g4 c4 g16 g18 XA XB HP)) hdep 10 160 (by kernel_rfl) (by kernel_rfl)
                clear hdep hsame hi hlate hfr hkeep
                exact .inl ⟨wanted_of 10 rfl eg (by kernel_rfl), showsO_move hsn rfl _ rfl e4⟩
              | 12, hi =>
                cases (show some _ = some o from hi)
                have e12 : f.tmps.getD 12 undef = .int .i64 (j : Int) := hsame.slot 12 (fun i o h => invB2_not 12 (by kernel_rfl) h)
                have eg : f.tmps.getD 160 undef = .bool false := depO (V := (VY28 j M4 g4 c4 g16 g18 XA XB HP)) hdep 10 160 (by kernel_rfl) (by kernel_rfl)
                clear hdep hsame hi hlate hfr hkeep
                exact .inl ⟨wanted_of 10 rfl eg (by kernel_rfl), showsO_move hsn rfl _ rfl e12⟩
              | 13, hi =>
                cases (show some _ = some o from hi)
                have e161 : (f.tmps.getD 161 undef) = .slice (some ⟨g4, 0, none⟩) M4 c4 := depO (V := (VY28 j M4 g4 c4 g16 g18 XA XB HP)) hdep 11 161 (by kernel_rfl) (by kernel_rfl)
                have e162 : (f.tmps.getD 162 undef) = .int .i64 (j : Int) := depO (V := (VY28 j M4 g4 c4 g16 g18 XA XB HP)) hdep 12 162 (by kernel_rfl) (by kernel_rfl)
                have eg : f.tmps.getD 160 undef = .bool false := depO (V := (VY28 j M4 g4 c4 g16 g18 XA XB HP)) hdep 10 160 (by kernel_rfl) (by kernel_rfl)
                clear hdep hsame hi hlate hfr hkeep
                have f2 : ¬ (M4 : Int) ≤ (j : Int) := by have := JL.out; omega
                have f3 : (j : Int) < (M4 : Int) := by have := JL.out; omega
                exact .inl ⟨wanted_of 10 rfl eg (by kernel_rfl), showsO_pure hsn rfl (.pointer (some ⟨g4, j * 34, none⟩)) (by simp only [execOp, Act.eval]; go_simp) rfl⟩
              | 14, hi =>
                cases (show some _ = some o from hi)
                have e163 : (f.tmps.getD 163 undef) = .pointer (some ⟨g4, j * 34, none⟩) := depO (V := (VY28 j M4 g4 c4 g16 g18 XA XB HP)) hdep 13 163 (by kernel_rfl) (by kernel_rfl)
                have eg : f.tmps.getD 160 undef = .bool false := depO (V := (VY28 j M4 g4 c4 g16 g18 XA XB HP)) hdep 10 160 (by kernel_rfl) (by kernel_rfl)
                clear hdep hsame hi hlate hfr hkeep
                exact .inl ⟨wanted_of 10 rfl eg (by kernel_rfl), showsO_pure hsn rfl (.pointer (some ⟨g4, j * 34 + 2, none⟩)) (by simp only [execOp, Act.eval]; go_simp) rfl⟩
              | 15, hi =>
                cases (show some _ = some o from hi)
                have e164 : (f.tmps.getD 164 undef) = .pointer (some ⟨g4, j * 34 + 2, none⟩) := depO (V := (VY28 j M4 g4 c4 g16 g18 XA XB HP)) hdep 14 164 (by kernel_rfl) (by kernel_rfl)
                have eg : f.tmps.getD 160 undef = .bool false := depO (V := (VY28 j M4 g4 c4 g16 g18 XA XB HP)) hdep 10 160 (by kernel_rfl) (by kernel_rfl)
                clear hdep hsame hi hlate hfr hkeep
                exact .inl ⟨wanted_of 10 rfl eg (by kernel_rfl), showsO_mid hsn rfl 33 (.tmp 164) rfl g4 (j * 34 + 2) e164 (bcells (HP)) (RH.out u hbz) underH rfl (hszB' HP32.out) rfl⟩
              | 16, hi =>
                cases (show some _ = some o from hi)
                have e16 : f.tmps.getD 16 undef = .pointer (some ⟨g16, 0, none⟩) := hsame.slot 16 (fun i o h => invB2_not 16 (by kernel_rfl) h)
                have eg : f.tmps.getD 160 undef = .bool false := depO (V := (VY28 j M4 g4 c4 g16 g18 XA XB HP)) hdep 10 160 (by kernel_rfl) (by kernel_rfl)
                clear hdep hsame hi hlate hfr hkeep
                exact .inl ⟨wanted_of 10 rfl eg (by kernel_rfl), showsO_row hsn rfl 33 (.tmp 16) rfl g16 e16 (ocells (XA)) ((hb6.block _ (Array.getElem?_eq_some_iff.1 M165.out).1).trans M165.out) underH rfl (hszL XA32.out) rfl⟩
              | 17, hi =>
                cases (show some _ = some o from hi)
                have e18 : f.tmps.getD 18 undef = .pointer (some ⟨g18, 0, none⟩) := hsame.slot 18 (fun i o h => invB2_not 18 (by kernel_rfl) h)
                have eg : f.tmps.getD 160 undef = .bool false := depO (V := (VY28 j M4 g4 c4 g16 g18 XA XB HP)) hdep 10 160 (by kernel_rfl) (by kernel_rfl)
                clear hdep hsame hi hlate hfr hkeep
                exact .inl ⟨wanted_of 10 rfl eg (by kernel_rfl), showsO_row hsn rfl 33 (.tmp 18) rfl g18 e18 (ocells (XB)) ((hb6.block _ (Array.getElem?_eq_some_iff.1 M18.out).1).trans M18.out) underH rfl (hszL XB32.out) rfl⟩
              | 18, hi =>
                cases (show some _ = some o from hi)
                have e166 : (f.tmps.getD 166 undef) = .agg (ocells (XA)) := depO (V := (VY28 j M4 g4 c4 g16 g18 XA XB HP)) hdep 16 166 (by kernel_rfl) (by kernel_rfl)
                have e167 : (f.tmps.getD 167 undef) = .agg (ocells (XB)) := depO (V := (VY28 j M4 g4 c4 g16 g18 XA XB HP)) hdep 17 167 (by kernel_rfl) (by kernel_rfl)
                have eg : f.tmps.getD 160 undef = .bool false := depO (V := (VY28 j M4 g4 c4 g16 g18 XA XB HP)) hdep 10 160 (by kernel_rfl) (by kernel_rfl)
                clear hdep hsame hi hlate hfr hkeep
                have c := CND.out u hbz
                exact .inl ⟨wanted_of 10 rfl eg (by kernel_rfl), showsO_call1 hsn rfl 21 #[.agg (ocells (XA)), .agg (ocells (XB))] (by simp only [execOp, Act.eval]; go_simp) (c) (fun _ => rfl)⟩
              | 19, hi =>
                cases (show some _ = some o from hi)
                have e165 : (f.tmps.getD 165 undef) = .agg (ocells (HP)) := depO (V := (VY28 j M4 g4 c4 g16 g18 XA XB HP)) hdep 15 165 (by kernel_rfl) (by kernel_rfl)
                have e168 : (f.tmps.getD 168 undef) = .agg (ocells (HP)) := depO (V := (VY28 j M4 g4 c4 g16 g18 XA XB HP)) hdep 18 168 (by kernel_rfl) (by kernel_rfl)
                have eg : f.tmps.getD 160 undef = .bool false := depO (V := (VY28 j M4 g4 c4 g16 g18 XA XB HP)) hdep 10 160 (by kernel_rfl) (by kernel_rfl)
                clear hdep hsame hi hlate hfr hkeep
                have q := fun u => hv_neq u (HP) (HP) HP32.out HP32.out
                simp only [hv_agg, beq_self_eq_true, Bool.not_true] at q
                exact .inl ⟨wanted_of 10 rfl eg (by kernel_rfl), showsO_pure hsn rfl (.bool false) (by simp only [execOp, Act.eval]; go_simp) rfl⟩
              | 20, hi =>
                cases (show some _ = some o from hi)
                have e160 : (f.tmps.getD 160 undef) = .bool false := depO (V := (VY28 j M4 g4 c4 g16 g18 XA XB HP)) hdep 10 160 (by kernel_rfl) (by kernel_rfl)
                have e169 : (f.tmps.getD 169 undef) = .bool false := depO (V := (VY28 j M4 g4 c4 g16 g18 XA XB HP)) hdep 19 169 (by kernel_rfl) (by kernel_rfl)
                clear hdep hsame hi hlate hfr hkeep
                exact .inl ⟨wanted_none rfl, showsO_pure hsn rfl (.bool false) (by simp only [execOp, Act.eval]; go_simp) rfl⟩
              | n + 21, hi => exact absurd hi (by simp)
            intro fr u6 own hsame hsn hall
            have q150 : fr.tmps.getD 150 undef = .bool true := finO (V := (VY28 j M4 g4 c4 g16 g18 XA XB HP)) hall 0 150 rfl
            have q151 : fr.tmps.getD 151 undef = .bool false := finO (V := (VY28 j M4 g4 c4 g16 g18 XA XB HP)) hall 1 151 rfl
            have q152 : fr.tmps.getD 152 undef = .bool false := finO (V := (VY28 j M4 g4 c4 g16 g18 XA XB HP)) hall 2 152 rfl
            have q153 : fr.tmps.getD 153 undef = .bool true := finO (V := (VY28 j M4 g4 c4 g16 g18 XA XB HP)) hall 3 153 rfl
            have q154 : fr.tmps.getD 154 undef = .bool false := finO (V := (VY28 j M4 g4 c4 g16 g18 XA XB HP)) hall 4 154 rfl
            have q155 : fr.tmps.getD 155 undef = .bool false := finO (V := (VY28 j M4 g4 c4 g16 g18 XA XB HP)) hall 5 155 rfl
            have q156 : fr.tmps.getD 156 undef = .bool false := finO (V := (VY28 j M4 g4 c4 g16 g18 XA XB HP)) hall 6 156 rfl
            have q157 : fr.tmps.getD 157 undef = .bool true := finO (V := (VY28 j M4 g4 c4 g16 g18 XA XB HP)) hall 7 157 rfl
            have q158 : fr.tmps.getD 158 undef = .bool false := finO (V := (VY28 j M4 g4 c4 g16 g18 XA XB HP)) hall 8 158 rfl
            have q159 : fr.tmps.getD 159 undef = .bool false := finO (V := (VY28 j M4 g4 c4 g16 g18 XA XB HP)) hall 9 159 rfl
            have q160 : fr.tmps.getD 160 undef = .bool false := finO (V := (VY28 j M4 g4 c4 g16 g18 XA XB HP)) hall 10 160 rfl
            have q161 : fr.tmps.getD 161 undef = .slice (some ⟨g4, 0, none⟩) M4 c4 := finO (V := (VY28 j M4 g4 c4 g16 g18 XA XB HP)) hall 11 161 rfl
            have q162 : fr.tmps.getD 162 undef = .int .i64 (j : Int) := finO (V := (VY28 j M4 g4 c4 g16 g18 XA XB HP)) hall 12 162 rfl
            have q163 : fr.tmps.getD 163 undef = .pointer (some ⟨g4, j * 34, none⟩) := finO (V := (VY28 j M4 g4 c4 g16 g18 XA XB HP)) hall 13 163 rfl
            have q164 : fr.tmps.getD 164 undef = .pointer (some ⟨g4, j * 34 + 2, none⟩) := finO (V := (VY28 j M4 g4 c4 g16 g18 XA XB HP)) hall 14 164 rfl
            have q165 : fr.tmps.getD 165 undef = .agg (ocells (HP)) := finO (V := (VY28 j M4 g4 c4 g16 g18 XA XB HP)) hall 15 165 rfl
            have q166 : fr.tmps.getD 166 undef = .agg (ocells (XA)) := finO (V := (VY28 j M4 g4 c4 g16 g18 XA XB HP)) hall 16 166 rfl
            have q167 : fr.tmps.getD 167 undef = .agg (ocells (XB)) := finO (V := (VY28 j M4 g4 c4 g16 g18 XA XB HP)) hall 17 167 rfl
            have q168 : fr.tmps.getD 168 undef = .agg (ocells (HP)) := finO (V := (VY28 j M4 g4 c4 g16 g18 XA XB HP)) hall 18 168 rfl
            have q169 : fr.tmps.getD 169 undef = .bool false := finO (V := (VY28 j M4 g4 c4 g16 g18 XA XB HP)) hall 19 169 rfl
            have q170 : fr.tmps.getD 170 undef = .bool false := finO (V := (VY28 j M4 g4 c4 g16 g18 XA XB HP)) hall 20 170 rfl
            obtain rfl := frame_eq hsame [(150, .bool true), (151, .bool false), (152, .bool false), (153, .bool true), (154, .bool false), (155, .bool false), (156, .bool false), (157, .bool true), (158, .bool false), (159, .bool false), (160, .bool false), (161, .slice (some ⟨g4, 0, none⟩) M4 c4), (162, .int .i64 (j : Int)), (163, .pointer (some ⟨g4, j * 34, none⟩)), (164, .pointer (some ⟨g4, j * 34 + 2, none⟩)), (165, .agg (ocells (HP))), (166, .agg (ocells (XA))), (167, .agg (ocells (XB))), (168, .agg (ocells (HP))), (169, .bool false), (170, .bool false)] (by kernel_rfl) ⟨q150, q151, q152, q153, q154, q155, q156, q157, q158, q159, q160, q161, q162, q163, q164, q165, q166, q167, q168, q169, q170, trivial⟩
            clear hall hsame q150 q151 q152 q153 q154 q155 q156 q157 q158 q159 q160 q161 q162 q163 q164 q165 q166 q167 q168 q169 q170
            simp only [List.foldl, List.setIfInBounds_toArray, List.set_cons_succ, List.set_cons_zero]
            have hb := hsn.below (B := u5.heap.size) (fun _ _ => rfl) (Nat.le_refl _)
            have BZ6 := Bx.mk (BZ5.out.trans (hb.mono BZ5.out.size))
            clear hb hsn CND
            have jb : j ≤ 1200 := by have := JL.out; have := ML4.out; omega
            go_wp2_with fail
            go_roundw
            case rel => exact ⟨j + 1, JL.out, by have := JL.out; have := ML4.out; go_num, BZ6.out⟩
            case measure => have := JL.out; simp [intOf]; omega
        · obtain rfl : j = M4 := by omega
          clear hj hjm
          have f2 : ¬ (j : Int) < (j : Int) := by omega
          have d1 := D1.out
          go_wp2_with fail
          refine (SB.out wz BZ.out).mono ?_
          rintro e u2 ⟨rfl, hb⟩
          have HB := Bx.mk hb
          clear hb
          go_wp2_with fail
          go_ret
          exact ⟨rfl, K.out.trans ((W0.out.trans ((BZ.out.trans (HB.out.mono BZ.out.size)).mono W0.out.size)).mono K.out.size)⟩
end Go.Proofs.YtbhcaalelfaceaaDoor
