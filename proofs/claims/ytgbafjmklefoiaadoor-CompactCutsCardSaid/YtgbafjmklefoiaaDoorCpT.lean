/- cartularylaw09.CompactCuts walked. -/
import Derived.Test.YtgbafjmklefoiaaDoorCpR
import Derived.Test.YtgbafjmklefoiaaDoorCpJ
import Derived.Test.YtgbafjmklefoiaaDoorG7
namespace Go.Proofs.YtgbafjmklefoiaaDoor
set_option maxRecDepth 100000
open Go.RowKit
structure Ct (w : World) : Prop where
  tab : TabS w
  tz : TabZ w
  lt : 4 < w.heap.size
theorem Ct.below {w w' : World} (h : Ct w) (k : Below w.heap.size w w') : Ct w' := ⟨h.tab.below k, h.tz.below h.lt k, Nat.lt_of_lt_of_le h.lt k.size⟩
theorem built_nineC : Tryd.prog.built 28 [(0, .int .u8 9)] = some (ocells (oneB 9)) := by kernel_rfl
theorem zipC_row (f : Nat → List UInt8) (b e : Nat) : zipC (coverN b e) (hsC (rowC f b e)) = rowC f b e := by
  rw [← rowC_co f b e]
  unfold zipC hsC
  generalize rowC f b e = l
  induction l with
  | nil => rfl
  | cons x l ih => rw [List.map_cons, List.map_cons, List.zip_cons_cons, List.map_cons, ih]; rfl
/-- where a slice that is cut begins -/
def cutA (ad : Option Addr) (cap i : Nat) : Option Addr := if cap = i then ad else ad.map fun a => a.add (i * 32)
theorem Hss.cutC {w : World} {ad : Option Addr} {n cap : Nat} {l : List (List UInt8)} (h : Hss w (.slice ad n cap) l) {i k : Nat} (hik : i ≤ k) (hk : k ≤ n) : Hss w (.slice (cutA ad cap i) (k - i) (cap - i)) ((l.take k).drop i) := by
  obtain ⟨h0, a', cap', h1, h2, h3, h4⟩ := id h
  cases h1
  have hl : ((l.take k).drop i).length = k - i := by rw [List.length_drop, List.length_take]; omega
  rcases Nat.lt_or_ge i k with hlt | hge
  · obtain ⟨B, off, e1, e2, e3⟩ := h4 (by intro e; subst e; simp at hk; omega)
    cases e1
    have h5 := (h.take k hk).dropC i (by rw [List.length_take]; omega)
    unfold cutA
    rw [if_neg (by omega)]
    have e : (⟨B, off, none⟩ : Addr).add (i * 32) = ⟨B, off + i * 32, none⟩ := by
      unfold Addr.add
      split
      · rename_i h; rw [h]; rfl
      · rfl
    show Hss w (.slice (some ((⟨B, off, none⟩ : Addr).add (i * 32))) (k - i) (cap - i)) _
    rw [e]
    exact h5
  · have hn : (l.take k).drop i = [] := List.length_eq_zero_iff.1 (by rw [hl]; omega)
    rw [hn]
    exact ⟨(fun x hx => by cases hx), _, cap - i, (by rw [show k - i = 0 by omega]; rfl), Nat.zero_le _, (by omega), fun hx => absurd rfl hx⟩
/-- no block of the one is a block of the other -/
def ApC (r : Nat) (s : Value) (q : Nat) (t : Value) : Prop := ∀ k, RaS r s k → ¬ RaS q t k
theorem ApC.symm {r q : Nat} {s t : Value} (h : ApC r s q t) : ApC q t r s := fun k h1 h2 => h k h2 h1
theorem ApC.turn {r q : Nat} {s t s' : Value} {w : World} (h : ApC r s q t) (hs : ∀ k, s'.ownBlock = some k → s.ownBlock = some k ∨ w.heap.size ≤ k) (ht : ∀ k, RaS q t k → k < w.heap.size) : ApC r s' q t := by
  rintro k (h1 | h1) h2
  · exact h k (.inl h1) h2
  · rcases hs k h1 with h3 | h3
    · exact h k (.inr h3) h2
    · have := ht k h2; omega
theorem ApC.fresh {base base2 r q : Nat} {s t : Value} {w w' : World} {B E B2 E2 : Nat} {l l2 : List (Nat × Nat × List UInt8)} (h : RaP base w r B E l s) (h2 : RaP base2 w' q B2 E2 l2 t) (hb : w.heap.size ≤ base2) : ApC r s q t := fun k h3 h4 => by
  have := h.lt k h3
  have := h2.ge k h4
  omega
theorem rowH_apart {base b0 n : Nat} {w : World} {r B E : Nat} {l : List (Nat × Nat × List UInt8)} {s v : Value} {xs : List Value} (h : RaP base w r B E l s) (ho : w.ownsRow b0 28 32 v n xs) : ∀ j, v.ownBlock = some j → ¬ RaS r s j := by
  intro j hj
  rcases ho.2 with ⟨rfl, _⟩ | ⟨g, cap, cur, rfl, _, hg, _⟩
  · cases hj
  · cases hj
    exact raS_not h hg
theorem wpList_buildC {P : Program} {ops : Array Oper} {rest : List Oper} {o : Oper} {a : Act} {w : World} {Q : Exit → Act → World → Prop} (hw : Region.wanted o (yielded ops a.tmps) = true) (T : TypeId) (parts : Array (Nat × Operand)) (ho : o.op = .build T parts)
    (cs : Array Value) (hb : P.built T (parts.map fun (i, x) => (i, a.eval x)).toList = some cs) (h : wpList P ops Q rest (a.put o.dst (.agg cs)) w) : wpList P ops Q (o :: rest) a w :=
  wpList_step fun K hK => by
    rw [if_pos hw]
    refine wp_build T parts ho (by rw [hb]; rfl) ?_
    rw [hb]
    exact hK _ _ h
def VT10 (Z st fi _fk _e1 ii _kk n cap : Nat) (ad : Option Addr) (fL : Nat → List UInt8) (oi : Nat) (v : Value) (own : Nat → Option Nat) (w : World) : Prop :=
  match oi with
  | 0 => v = .int .u64 (st : Int)
  | 1 => v = .slice ad n cap
  | 2 => v = .int .i64 (ii : Int)
  | 3 => v = .slice ad ii cap
  | 4 => MadeR own w v st fi Z (rowC fL st fi)
  | 5 => MadeR own w v st fi Z (rowC fL st fi)
  | _ => True
def VT10mk : Nat → Option Nat := fun _ => none
theorem VT10_mono (Z st fi fk e1 ii kk n cap : Nat) (ad : Option Addr) (fL : Nat → List UInt8) (oi oj : Nat) (v : Value) (own : Nat → Option Nat) (w : World) (own' : Nat → Option Nat) (w' : World) (hij : oi ≠ oj)   (h : VT10 Z st fi fk e1 ii kk n cap ad fL oj v own w) (r : Rel VT10mk oi own w own' w') : VT10 Z st fi fk e1 ii kk n cap ad fL oj v own' w' := by
  unfold VT10 at h ⊢
  split at h
  · exact h
  · exact h
  · exact h
  · exact h
  · exact h.stable r
  · exact h.stable r
  · trivial

def VT11 (Z st fi fk _e1 ii kk n cap : Nat) (ad : Option Addr) (fL : Nat → List UInt8) (oi : Nat) (v : Value) (own : Nat → Option Nat) (w : World) : Prop :=
  match oi with
  | 0 => v = .int .u64 (st : Int)
  | 1 => v = .int .i64 (ii : Int)
  | 2 => v = .int .u64 (ii : Int)
  | 3 => v = .int .u64 (fi : Int)
  | 4 => v = .slice ad n cap
  | 5 => v = .int .i64 (ii : Int)
  | 6 => v = .int .i64 (kk : Int)
  | 7 => v = .slice (cutA ad cap ii) (kk - ii) (cap - ii)
  | 8 => MadeR own w v fi fk Z (rowC fL fi fk)
  | 9 => MadeR own w v fi fk Z (rowC fL fi fk)
  | _ => True
def VT11mk : Nat → Option Nat := fun _ => none
theorem VT11_mono (Z st fi fk e1 ii kk n cap : Nat) (ad : Option Addr) (fL : Nat → List UInt8) (oi oj : Nat) (v : Value) (own : Nat → Option Nat) (w : World) (own' : Nat → Option Nat) (w' : World) (hij : oi ≠ oj)   (h : VT11 Z st fi fk e1 ii kk n cap ad fL oj v own w) (r : Rel VT11mk oi own w own' w') : VT11 Z st fi fk e1 ii kk n cap ad fL oj v own' w' := by
  unfold VT11 at h ⊢
  split at h
  · exact h
  · exact h
  · exact h
  · exact h
  · exact h
  · exact h
  · exact h
  · exact h
  · exact h.stable r
  · exact h.stable r
  · trivial

def VT12 (Z st _fi fk e1 _ii kk n cap : Nat) (ad : Option Addr) (fL : Nat → List UInt8) (oi : Nat) (v : Value) (own : Nat → Option Nat) (w : World) : Prop :=
  match oi with
  | 0 => v = .int .u64 (st : Int)
  | 1 => v = .int .i64 (kk : Int)
  | 2 => v = .int .u64 (kk : Int)
  | 3 => v = .int .u64 (fk : Int)
  | 4 => v = .slice ad n cap
  | 5 => v = .int .i64 (kk : Int)
  | 6 => v = .slice (cutA ad cap kk) (n - kk) (cap - kk)
  | 7 => MadeR own w v fk e1 Z (rowC fL fk e1)
  | 8 => MadeR own w v fk e1 Z (rowC fL fk e1)
  | _ => True
def VT12mk : Nat → Option Nat := fun _ => none
theorem VT12_mono (Z st fi fk e1 ii kk n cap : Nat) (ad : Option Addr) (fL : Nat → List UInt8) (oi oj : Nat) (v : Value) (own : Nat → Option Nat) (w : World) (own' : Nat → Option Nat) (w' : World) (hij : oi ≠ oj)   (h : VT12 Z st fi fk e1 ii kk n cap ad fL oj v own w) (r : Rel VT12mk oi own w own' w') : VT12 Z st fi fk e1 ii kk n cap ad fL oj v own' w' := by
  unfold VT12 at h ⊢
  split at h
  · exact h
  · exact h
  · exact h
  · exact h
  · exact h
  · exact h
  · exact h
  · exact h.stable r
  · exact h.stable r
  · trivial

def VT22 (st e1 n cap r7 r11 r13 r15 : Nat) (ad : Option Addr) (oi : Nat) (v : Value) (_own : Nat → Option Nat) (_w : World) : Prop :=
  match oi with
  | 0 => v = .nilIface
  | 1 => v = .bool false
  | 2 => v = .bool false
  | 3 => v = .pointer (some ⟨r15, 0, none⟩)
  | 4 => v = .bool false
  | 5 => v = .bool false
  | 6 => v = .bool false
  | 7 => v = .pointer (some ⟨r7, 0, none⟩)
  | 8 => v = .agg #[.int .u64 (st : Int), .int .u64 (e1 : Int)]
  | 9 => v = .int .u64 (st : Int)
  | 10 => v = .int .u64 (st : Int)
  | 11 => v = .slice ad n cap
  | 12 => v = .int .i64 (n : Int)
  | 13 => v = .int .u64 (n : Int)
  | 14 => v = .int .u64 (e1 : Int)
  | 15 => v = .agg #[.int .u64 (st : Int), .int .u64 (e1 : Int)]
  | 16 => v = .bool false
  | 17 => v = .bool false
  | 18 => v = .bool false
  | 19 => v = .pointer (some ⟨r11, 0, none⟩)
  | 20 => v = .agg #[.int .u64 (st : Int), .int .u64 (e1 : Int)]
  | 21 => v = .pointer (some ⟨r7, 0, none⟩)
  | 22 => v = .agg #[.int .u64 (st : Int), .int .u64 (e1 : Int)]
  | 23 => v = .bool false
  | 24 => v = .bool false
  | 25 => v = .bool false
  | 26 => v = .pointer (some ⟨r13, 0, none⟩)
  | 27 => v = .agg #[.int .u64 (st : Int), .int .u64 (e1 : Int)]
  | 28 => v = .pointer (some ⟨r7, 0, none⟩)
  | 29 => v = .agg #[.int .u64 (st : Int), .int .u64 (e1 : Int)]
  | 30 => v = .bool false
  | 31 => v = .bool false
  | _ => True
def VT22mk : Nat → Option Nat := fun _ => none
theorem VT22_mono (st e1 n cap r7 r11 r13 r15 : Nat) (ad : Option Addr) (oi oj : Nat) (v : Value) (own : Nat → Option Nat) (w : World) (own' : Nat → Option Nat) (w' : World) (hij : oi ≠ oj)   (h : VT22 st e1 n cap r7 r11 r13 r15 ad oj v own w) (_r : Rel VT22mk oi own w own' w') : VT22 st e1 n cap r7 r11 r13 r15 ad oj v own' w' := by
  unfold VT22 at h ⊢
  split at h
  · exact h
  · exact h
  · exact h
  · exact h
  · exact h
  · exact h
  · exact h
  · exact h
  · exact h
  · exact h
  · exact h
  · exact h
  · exact h
  · exact h
  · exact h
  · exact h
  · exact h
  · exact h
  · exact h
  · exact h
  · exact h
  · exact h
  · exact h
  · exact h
  · exact h
  · exact h
  · exact h
  · exact h
  · exact h
  · exact h
  · exact h
  · exact h
  · trivial

def VT24 (k c14 r11 r13 r15 : Nat) (a14 : Option Addr) (hs : List (List UInt8)) (oi : Nat) (v : Value) (own : Nat → Option Nat) (w : World) : Prop :=
  match oi with
  | 0 => v = .pointer (some ⟨r11, 0, none⟩)
  | 1 => RowN own w v 0 28 32 k (hcells hs)
  | 2 => v = .slice a14 k c14
  | 3 => v = .bool true
  | 4 => v = .bool false
  | 5 => v = .bool false
  | 6 => v = .pointer (some ⟨r13, 0, none⟩)
  | 7 => RowN own w v 0 28 32 k (hcells hs)
  | 8 => v = .slice a14 k c14
  | 9 => v = .bool true
  | 10 => v = .bool false
  | 11 => v = .bool false
  | 12 => v = .bool false
  | 13 => v = .pointer (some ⟨r15, 0, none⟩)
  | 14 => RowN own w v 0 28 32 k (hcells hs)
  | 15 => v = .slice a14 k c14
  | 16 => v = .bool true
  | 17 => v = .bool false
  | 18 => v = .bool false
  | _ => True
def VT24mk : Nat → Option Nat := fun _ => none
theorem VT24_mono (k c14 r11 r13 r15 : Nat) (a14 : Option Addr) (hs : List (List UInt8)) (oi oj : Nat) (v : Value) (own : Nat → Option Nat) (w : World) (own' : Nat → Option Nat) (w' : World) (hij : oi ≠ oj)   (h : VT24 k c14 r11 r13 r15 a14 hs oj v own w) (r : Rel VT24mk oi own w own' w') : VT24 k c14 r11 r13 r15 a14 hs oj v own' w' := by
  unfold VT24 at h ⊢
  split at h
  · exact h
  · exact h.stable r
  · exact h
  · exact h
  · exact h
  · exact h
  · exact h
  · exact h.stable r
  · exact h
  · exact h
  · exact h
  · exact h
  · exact h
  · exact h
  · exact h.stable r
  · exact h
  · exact h
  · exact h
  · exact h
  · trivial

def VT26 (Z st fi fk _e1 ii kk n cap : Nat) (ad : Option Addr) (fL : Nat → List UInt8) (oi : Nat) (v : Value) (own : Nat → Option Nat) (w : World) : Prop :=
  match oi with
  | 0 => v = .int .u64 (st : Int)
  | 1 => v = .int .i64 (ii : Int)
  | 2 => v = .int .u64 (ii : Int)
  | 3 => v = .int .u64 (fi : Int)
  | 4 => v = .slice ad n cap
  | 5 => v = .int .i64 (ii : Int)
  | 6 => v = .int .i64 (kk : Int)
  | 7 => v = .slice (cutA ad cap ii) (kk - ii) (cap - ii)
  | 8 => MadeR own w v fi fk Z (rowC fL fi fk)
  | 9 => MadeR own w v fi fk Z (rowC fL fi fk)
  | _ => True
def VT26mk : Nat → Option Nat := fun _ => none
theorem VT26_mono (Z st fi fk e1 ii kk n cap : Nat) (ad : Option Addr) (fL : Nat → List UInt8) (oi oj : Nat) (v : Value) (own : Nat → Option Nat) (w : World) (own' : Nat → Option Nat) (w' : World) (hij : oi ≠ oj)   (h : VT26 Z st fi fk e1 ii kk n cap ad fL oj v own w) (r : Rel VT26mk oi own w own' w') : VT26 Z st fi fk e1 ii kk n cap ad fL oj v own' w' := by
  unfold VT26 at h ⊢
  split at h
  · exact h
  · exact h
  · exact h
  · exact h
  · exact h
  · exact h
  · exact h
  · exact h
  · exact h.stable r
  · exact h.stable r
  · trivial

def VT27 (fi fk ky r9 r17 : Nat) (hy : List (List UInt8)) (oi : Nat) (v : Value) (own : Nat → Option Nat) (w : World) : Prop :=
  match oi with
  | 0 => v = .pointer (some ⟨r17, 0, none⟩)
  | 1 => v = .bool false
  | 2 => v = .bool false
  | 3 => v = .pointer (some ⟨r9, 0, none⟩)
  | 4 => RowN own w v 0 28 32 ky (hcells hy)
  | 5 => v = .pointer (some ⟨r17, 0, none⟩)
  | 6 => RowN own w v 0 28 32 ky (hcells hy)
  | 7 => v = .bool true
  | 8 => v = .bool false
  | 9 => v = .bool false
  | 10 => v = .bool false
  | 11 => v = .pointer (some ⟨r9, 0, none⟩)
  | 12 => v = .agg #[.int .u64 (fi : Int), .int .u64 (fk : Int)]
  | 13 => v = .pointer (some ⟨r17, 0, none⟩)
  | 14 => v = .agg #[.int .u64 (fi : Int), .int .u64 (fk : Int)]
  | 15 => v = .bool false
  | 16 => v = .bool false
  | _ => True
def VT27mk : Nat → Option Nat := fun _ => none
theorem VT27_mono (fi fk ky r9 r17 : Nat) (hy : List (List UInt8)) (oi oj : Nat) (v : Value) (own : Nat → Option Nat) (w : World) (own' : Nat → Option Nat) (w' : World) (hij : oi ≠ oj)   (h : VT27 fi fk ky r9 r17 hy oj v own w) (r : Rel VT27mk oi own w own' w') : VT27 fi fk ky r9 r17 hy oj v own' w' := by
  unfold VT27 at h ⊢
  split at h
  · exact h
  · exact h
  · exact h
  · exact h
  · exact h.stable r
  · exact h
  · exact h.stable r
  · exact h
  · exact h
  · exact h
  · exact h
  · exact h
  · exact h
  · exact h
  · exact h
  · exact h
  · exact h
  · trivial

def VT31 (Z st fk e1 kk n cap k c14 kv kz r7 r10 r11 r15 : Nat) (ad a14 : Option Addr) (fL : Nat → List UInt8) (hs hl hz : List (List UInt8)) (oi : Nat) (v : Value) (own : Nat → Option Nat) (w : World) : Prop :=
  match oi with
  | 0 => v = .pointer (some ⟨r11, 0, none⟩)
  | 1 => RowN own w v 0 28 32 kv (hcells hl)
  | 2 => v = .pointer (some ⟨r15, 0, none⟩)
  | 3 => RowN own w v 0 28 32 kv (hcells hl)
  | 4 => v = .bool true
  | 5 => v = .bool true
  | 6 => v = .pointer (some ⟨r7, 0, none⟩)
  | 7 => RowN own w v 0 28 32 k (hcells hs)
  | 8 => v = .slice a14 k c14
  | 9 => v = .bool true
  | 10 => v = .bool true
  | 11 => v = .bool true
  | 12 => v = .pointer (some ⟨r10, 0, none⟩)
  | 13 => RowN own w v 0 28 32 kz (hcells hz)
  | 14 => v = .int .u64 (st : Int)
  | 15 => v = .int .i64 (kk : Int)
  | 16 => v = .int .u64 (kk : Int)
  | 17 => v = .int .u64 (fk : Int)
  | 18 => v = .slice ad n cap
  | 19 => v = .int .i64 (kk : Int)
  | 20 => v = .slice (cutA ad cap kk) (n - kk) (cap - kk)
  | 21 => MadeR own w v fk e1 Z (rowC fL fk e1)
  | 22 => RowN own w v 0 28 32 kz (hcells hz)
  | 23 => v = .bool true
  | 24 => v = .bool true
  | 25 => v = .bool true
  | 26 => v = .bool true
  | 27 => v = .bool true
  | 28 => v = .bool true
  | _ => True
def VT31mk : Nat → Option Nat := fun _ => none
theorem VT31_mono (Z st fk e1 kk n cap k c14 kv kz r7 r10 r11 r15 : Nat) (ad a14 : Option Addr) (fL : Nat → List UInt8) (hs hl hz : List (List UInt8)) (oi oj : Nat) (v : Value) (own : Nat → Option Nat) (w : World) (own' : Nat → Option Nat) (w' : World) (hij : oi ≠ oj)   (h : VT31 Z st fk e1 kk n cap k c14 kv kz r7 r10 r11 r15 ad a14 fL hs hl hz oj v own w) (r : Rel VT31mk oi own w own' w') : VT31 Z st fk e1 kk n cap k c14 kv kz r7 r10 r11 r15 ad a14 fL hs hl hz oj v own' w' := by
  unfold VT31 at h ⊢
  split at h
  · exact h
  · exact h.stable r
  · exact h
  · exact h.stable r
  · exact h
  · exact h
  · exact h
  · exact h.stable r
  · exact h
  · exact h
  · exact h
  · exact h
  · exact h
  · exact h.stable r
  · exact h
  · exact h
  · exact h
  · exact h
  · exact h
  · exact h
  · exact h
  · exact h.stable r
  · exact h.stable r
  · exact h
  · exact h
  · exact h
  · exact h
  · exact h
  · exact h
  · trivial

set_option maxHeartbeats 8000000 in
theorem ccuts_any (w : World) (b : Nat) (ad : Option Addr) (n cap : Nat) (l : List (List UInt8)) (hH : Hss w (.slice ad n cap) l) (hnil : ad = none → cap = 0) (ca cb : Nat) (ha8 : ca < 256) (hb8 : cb < 256) (hb : b < 18446744073709551616) (h : Ct w) :
    Calls Tryd.prog 4 #[.agg #[.int .u64 (b : Int), .slice ad n cap, .int .u8 (ca : Int), .int .u8 (cb : Int)]] w fun e w' => e = .returned (.bool true) ∧ Below w.heap.size w w' := by
  by_cases h300 : 300 < n
  · have f1 : (300 : Int) < (n : Int) := by omega
    have HT := Bx.mk h.tab
    clear hH h hb hnil ha8 hb8
    have x0 := heap_alloc_new w (.cells #[.int .u64 (b : Int), .slice ad n cap, .int .u8 (ca : Int), .int .u8 (cb : Int)] 47)
    have kb := er_al (Below.refl w.heap.size w) (.cells #[.int .u64 (b : Int), .slice ad n cap, .int .u8 (ca : Int), .int .u8 (cb : Int)] 47)
    go_enter Tryd.func4, Tryd.ntmps4
    go_upto_region 1 with (fail)
    change Code.wp _ _ _ _ (w.alloc (.cells #[.int .u64 (b : Int), .slice ad n cap, .int .u8 (ca : Int), .int .u8 (cb : Int)] 47))
    generalize w.alloc (.cells #[.int .u64 (b : Int), .slice ad n cap, .int .u8 (ca : Int), .int .u8 (cb : Int)] 47) = W at x0 kb ⊢
    obtain ⟨N, hN⟩ : ∃ N, N = w.heap.size := ⟨_, rfl⟩
    rw [← hN] at x0 ⊢
    have c0 := er_cellAt x0 0 _ rfl; have c1 := er_cellAt x0 1 _ rfl; have c2 := er_cellAt x0 2 _ rfl; have c3 := er_cellAt x0 3 _ rfl
    have KB := Bx.mk kb
    clear x0 hN kb
    go_wp2_with fail
    refine (alive09_any W (HT.out.below KB.out)).mono ?_
    rintro e u ⟨rfl, hb⟩
    go_wp2_with fail
    go_ret
    exact ⟨rfl, KB.out.trans (hb.mono KB.out.size)⟩
  · have f0 : ¬ (300 : Int) < (n : Int) := by omega
    have hnl : n = l.length := by obtain ⟨_, _, e, _, _⟩ := hH.len; cases e; rfl
    have hcap : n ≤ cap ∧ cap ≤ 9223372036854775807 := by obtain ⟨_, _, e, h1, h2⟩ := hH.len; cases e; exact ⟨h1, h2⟩
    obtain ⟨st, hst⟩ : ∃ st, st = startN b (n + 1) := ⟨_, rfl⟩
    have hsl : st + (n + 1) ≤ 2 ^ 63 := by rw [hst]; exact startN_le (by omega)
    obtain ⟨fL, hf⟩ : ∃ fL : Nat → List UInt8, fL = fun i => fnC l (i - st) := ⟨_, rfl⟩
    have FG : Bx (∀ t (h : t < l.length), l[t] = fL (st + t)) := ⟨fun t h => by rw [hf, fnC_get t h]; show _ = fnC l (st + t - st); rw [Nat.add_sub_cancel_left]⟩
    have FC : Bx (∀ i k (hik : i ≤ k) (hk : k ≤ l.length) t (h : t < ((l.take k).drop i).length), ((l.take k).drop i)[t] = fL (st + i + t)) := ⟨fun i k hik hk t h => by rw [List.getElem_drop, List.getElem_take, FG.out, Nat.add_assoc]⟩
    have cs := start_any w b (n + 1) (by omega) hb
    rw [← hst, show ((n + 1 : Nat) : Int) = (n : Int) + 1 by omega] at cs
    obtain ⟨ia, hia⟩ : ∃ ia, ia = ca % (n + 1) := ⟨_, rfl⟩
    obtain ⟨ib, hib⟩ : ∃ ib, ib = cb % (n + 1) := ⟨_, rfl⟩
    have IA := Bx.mk (show ia ≤ n by rw [hia]; have := Nat.mod_lt ca (show 0 < n + 1 by omega); omega); have IB := Bx.mk (show ib ≤ n by rw [hib]; have := Nat.mod_lt cb (show 0 < n + 1 by omega); omega)
    have MA := Bx.mk (show ((ca : Int)).tmod ((n : Int) + 1) = (ia : Int) by rw [Int.tmod_eq_emod_of_nonneg (by omega), hia, show ((n : Int) + 1) = ((n + 1 : Nat) : Int) from rfl, Int.natCast_emod])
    have MB := Bx.mk (show ((cb : Int)).tmod ((n : Int) + 1) = (ib : Int) by rw [Int.tmod_eq_emod_of_nonneg (by omega), hib, show ((n : Int) + 1) = ((n + 1 : Nat) : Int) from rfl, Int.natCast_emod])
    have A8 := Bx.mk ha8; have B8 := Bx.mk hb8
    have HL := Bx.mk hnl; have HHB := Bx.mk hH; have HEB := Bx.mk h; have NL := Bx.mk (show n ≤ 300 by omega); have SL := Bx.mk hsl; have H32 := Bx.mk hH.1; have HNIL := Bx.mk hnil; have HC := Bx.mk hcap; have HBB := Bx.mk hb; have HST := Bx.mk hst
    clear hH h hnl hsl hf cs hb h300 hnil hia hib ha8 hb8 hcap hst
    have x0 := heap_alloc_new w (.cells #[.int .u64 (b : Int), .slice ad n cap, .int .u8 (ca : Int), .int .u8 (cb : Int)] 47)
    have kb := er_al (Below.refl w.heap.size w) (.cells #[.int .u64 (b : Int), .slice ad n cap, .int .u8 (ca : Int), .int .u8 (cb : Int)] 47)
    go_enter Tryd.func4, Tryd.ntmps4
    go_upto_region 1 with (fail)
    change Code.wp _ _ _ _ (w.alloc (.cells #[.int .u64 (b : Int), .slice ad n cap, .int .u8 (ca : Int), .int .u8 (cb : Int)] 47))
    generalize w.alloc (.cells #[.int .u64 (b : Int), .slice ad n cap, .int .u8 (ca : Int), .int .u8 (cb : Int)] 47) = W at x0 kb ⊢
    obtain ⟨N, hN⟩ : ∃ N, N = w.heap.size := ⟨_, rfl⟩
    rw [← hN] at x0 ⊢
    have KW0 := Bx.mk kb; have HE1 := Bx.mk (HEB.out.below kb); have HH1 := Bx.mk (HHB.out.below kb)
    have X0 := Bx.mk x0
    have nl := NL.out
    have cs := start_any W b (n + 1) (by omega) HBB.out
    rw [← HST.out, show ((n + 1 : Nat) : Int) = (n : Int) + 1 by omega] at cs
    have CS := Bx.mk cs
    have c0 := er_cellAt x0 0 _ rfl; have c1 := er_cellAt x0 1 _ rfl; have c2 := er_cellAt x0 2 _ rfl; have c3 := er_cellAt x0 3 _ rfl
    clear x0 hN kb cs
    go_wp2_with fail
    refine CS.out.mono ?_
    rintro e W1 ⟨rfl, hb⟩
    clear CS c0 c1 c2 c3 f0
    have KW1 := Bx.mk (KW0.out.trans (hb.mono KW0.out.size)); have HE2 := Bx.mk (HE1.out.below hb); have HH2 := Bx.mk (HH1.out.below hb); have X1 := Bx.mk ((hb.block _ (Array.getElem?_eq_some_iff.1 X0.out).1).trans X0.out)
    clear hb KW0 HE1 HH1 X0
    have c2 := er_cellAt X1.out 2 _ rfl; have c3 := er_cellAt X1.out 3 _ rfl
    have m1 := MA.out; have m2 := MB.out
    have d1 : IntKind.i64.wrap (ca : Int) = (ca : Int) := by have := A8.out; simp [IntKind.wrap, IntKind.bits, IntKind.signed]; omega
    have d2 : IntKind.i64.wrap (cb : Int) = (cb : Int) := by have := B8.out; simp [IntKind.wrap, IntKind.bits, IntKind.signed]; omega
    have d3 : IntKind.i64.wrap (ia : Int) = (ia : Int) := by have := IA.out; simp [IntKind.wrap, IntKind.bits, IntKind.signed]; omega
    have d4 : IntKind.i64.wrap (ib : Int) = (ib : Int) := by have := IB.out; simp [IntKind.wrap, IntKind.bits, IntKind.signed]; omega
    go_upto_if 46 with (fail)
    clear c2 c3 m1 m2 d1 d2 d3 d4
    go_cut [5, 6] (fun v5 v6 wd => wd = W1 ∧ ∃ i k : Nat, v5 = .int .i64 (i : Int) ∧ v6 = .int .i64 (k : Int) ∧ i ≤ k ∧ k ≤ n)
    case first =>
      have ja := IA.out; have jb := IB.out
      by_cases hgt : ib < ia
      · have f1 : (ib : Int) < (ia : Int) := by omega
        go_wp2_with fail
        go_meet
        case rel => exact ⟨rfl, ib, ia, rfl, rfl, by omega, by omega⟩
      · have f1 : ¬ (ib : Int) < (ia : Int) := by omega
        go_wp2_with fail
        go_meet
        case rel => exact ⟨rfl, ia, ib, rfl, rfl, by omega, by omega⟩
    case rest =>
    obtain ⟨rfl, ii, kk, rfl, rfl, hik, hkn⟩ := hcut
    have IK := Bx.mk hik; have KN := Bx.mk hkn
    clear IA IB MA MB hik hkn
    have WW := Bx.mk (Nat.le_trans (Nat.zero_le _) KW1.out.size)
    have ca := appended_any wc st ad n cap l HH2.out fL FG.out HE2.out.tab (by rw [← HL.out]; have := SL.out; omega) (by rw [← HL.out]; omega)
    have CA := Bx.mk ca; clear ca WW
    go_wp2_with fail
    refine CA.out.mono ?_
    clear CA
    rintro e W2 ⟨r7, rfl, ⟨s7, hR⟩, hb⟩
    obtain ⟨e1, he1⟩ : ∃ e1, e1 = st + n := ⟨_, rfl⟩
    have E1 := Bx.mk he1
    rw [← he1] at hR
    obtain ⟨fi, hfi⟩ : ∃ x, x = st + ii := ⟨_, rfl⟩; obtain ⟨fk, hfk⟩ : ∃ x, x = st + kk := ⟨_, rfl⟩
    have FI := Bx.mk hfi; have FK := Bx.mk hfk
    have LO : Bx (w.heap.size ≤ wc.heap.size) := ⟨KW1.out.size⟩
    clear he1 hfi hfk
    have KW2 := Bx.mk (KW1.out.trans (hb.mono KW1.out.size)); have HE3 := Bx.mk (HE2.out.below hb); have HH3 := Bx.mk (HH2.out.below hb)
    clear hb KW1 HE2 HH2
    have R_w0 := Bx.mk (hR.mono LO.out)
    clear hR
    go_upto_region 10 with (fail)
    obtain ⟨Z, hZ⟩ : ∃ Z, Z = W2.heap.size := ⟨_, rfl⟩
    have HZ := Bx.mk hZ; clear hZ
    refine wp_region_seq8 (n := 252) VT10mk (fun _ => none) (VT10 Z st fi fk e1 ii kk n cap ad fL) (by kernel_rfl) rfl (fun _ _ => rfl) (fun j i hj _ => by cases hj) ?_ ?_ ?_
    · exact fun oi oj v own w own' w' hij h r => VT10_mono Z st fi fk e1 ii kk n cap ad fL oi oj v own w own' w' (by omega)  h r
    · intro oi o hi f u own hsame hsn hfr hlate hkeep8 hdep
      have hkeep := hkeep8 _ (Nat.le_refl _)
      have hb6 := hsn.below (B := W2.heap.size) (fun _ _ => rfl) (Nat.le_refl _)
      match oi, hi with
      | 0, hi =>
        cases (show some _ = some o from hi)
        have e4 : f.tmps.getD 4 undef = .int .u64 (st : Int) := hlate 4 (earlyS (by kernel_rfl))
        clear hdep hsame hi hlate hfr hkeep
        exact .inl ⟨wanted_none rfl, showsO_move hsn rfl _ rfl e4⟩
      | 1, hi =>
        cases (show some _ = some o from hi)
        have e3 : f.tmps.getD 3 undef = .slice ad n cap := hlate 3 (earlyS (by kernel_rfl))
        clear hdep hsame hi hlate hfr hkeep
        exact .inl ⟨wanted_none rfl, showsO_move hsn rfl _ rfl e3⟩
      | 2, hi =>
        cases (show some _ = some o from hi)
        have e5 : f.tmps.getD 5 undef = .int .i64 (ii : Int) := hlate 5 (earlyS (by kernel_rfl))
        clear hdep hsame hi hlate hfr hkeep
        exact .inl ⟨wanted_none rfl, showsO_move hsn rfl _ rfl e5⟩
      | 3, hi =>
        cases (show some _ = some o from hi)
        have e53 : (f.tmps.getD 53 undef) = .slice ad n cap := depS (V := (VT10 Z st fi fk e1 ii kk n cap ad fL)) hdep 1 53 (by decide) (by kernel_rfl)
        have e54 : (f.tmps.getD 54 undef) = .int .i64 (ii : Int) := depS (V := (VT10 Z st fi fk e1 ii kk n cap ad fL)) hdep 2 54 (by decide) (by kernel_rfl)
        clear hdep hsame hi hlate hfr hkeep
        have hn0 := HNIL.out
        have hc0 := HC.out.1
        have k1 := IK.out
        have k2 := KN.out
        have h1 : (0 : Int) ≤ (0 : Int) := by omega
        have h2 : (0 : Int) ≤ (ii : Int) := by omega
        have h3 : (ii : Int) ≤ (cap : Int) := by omega
        have h3b : (ii : Int) ≤ (n : Int) := by omega
        have h3n : (0 : Int) ≤ (n : Int) := by omega
        exact .inl ⟨wanted_none rfl, showsO_pure hsn rfl (.slice ad ii cap) (by rcases ad with _ | ad; (obtain rfl : cap = 0 := hn0 rfl; obtain rfl : n = 0 := (by omega); obtain rfl : kk = 0 := (by omega); obtain rfl : ii = 0 := (by omega); simp only [execOp, Act.eval]; go_simp); (simp only [execOp, Act.eval]; go_simp)) rfl⟩
      | 4, hi =>
        cases (show some _ = some o from hi)
        have e52 : (f.tmps.getD 52 undef) = .int .u64 (st : Int) := depS (V := (VT10 Z st fi fk e1 ii kk n cap ad fL)) hdep 0 52 (by decide) (by kernel_rfl)
        have e55 : (f.tmps.getD 55 undef) = .slice ad ii cap := depS (V := (VT10 Z st fi fk e1 ii kk n cap ad fL)) hdep 3 55 (by decide) (by kernel_rfl)
        clear hdep hsame hi hlate hfr hkeep
        have c := appended_any u st _ _ _ _ ((HH3.out.take ii (by rw [← HL.out]; have := IK.out; have := KN.out; omega)).below hb6) fL (fun t h => by have := FG.out t (by rw [List.length_take] at h; omega); rw [List.getElem_take, this]) (HE3.out.below hb6).tab (by rw [List.length_take, ← HL.out]; have := SL.out; have := IK.out; have := KN.out; omega) (by rw [List.length_take, ← HL.out]; omega)
        rw [show st + ii = fi by have := IK.out; have := KN.out; have := FI.out; have := FK.out; have := E1.out; omega] at c
        exact .inl ⟨wanted_none rfl, showsO_call (R := fun v w' => ∃ r s, v = .pointer (some ⟨r, 0, none⟩) ∧ RaP u.heap.size w' r st fi (rowC fL st fi) s) hsn rfl 16 #[.int .u64 (st : Int), .slice ad ii cap] (by simp only [execOp, Act.eval]; go_simp) (c.mono fun e w' ⟨r, h1, ⟨s, h2⟩, h3⟩ => ⟨_, h1, ⟨r, s, rfl, h2⟩, h3⟩) (fun v w' ⟨r, s, h1, h2⟩ _ => ⟨r, s, h1, h2.mono (by rw [HZ.out]; exact hb6.size), fun k hk => hsn.top k (h2.ge k hk)⟩)⟩
      | 5, hi =>
        cases (show some _ = some o from hi)
        have e56 : MadeR own u (f.tmps.getD 56 undef) st fi Z (rowC fL st fi) := depS (V := (VT10 Z st fi fk e1 ii kk n cap ad fL)) hdep 4 56 (by decide) (by kernel_rfl)
        clear hdep hsame hi hlate hfr hkeep
        exact .inl ⟨wanted_none rfl, showsO_assign hsn rfl _ rfl e56⟩
      | n + 6, hi => exact absurd hi (by simp)
    intro fr W3 own hsame hsn hall
    have q52 : fr.tmps.getD 52 undef = .int .u64 (st : Int) := finO (V := (VT10 Z st fi fk e1 ii kk n cap ad fL)) hall 0 52 rfl
    have q53 : fr.tmps.getD 53 undef = .slice ad n cap := finO (V := (VT10 Z st fi fk e1 ii kk n cap ad fL)) hall 1 53 rfl
    have q54 : fr.tmps.getD 54 undef = .int .i64 (ii : Int) := finO (V := (VT10 Z st fi fk e1 ii kk n cap ad fL)) hall 2 54 rfl
    have q55 : fr.tmps.getD 55 undef = .slice ad ii cap := finO (V := (VT10 Z st fi fk e1 ii kk n cap ad fL)) hall 3 55 rfl
    obtain ⟨r56, s56, q56, n56⟩ := finO (V := (VT10 Z st fi fk e1 ii kk n cap ad fL)) hall 4 56 rfl
    obtain ⟨r8, s8, q8, n8⟩ := finO (V := (VT10 Z st fi fk e1 ii kk n cap ad fL)) hall 5 8 rfl
    obtain rfl := frame_eq hsame [(52, .int .u64 (st : Int)), (53, .slice ad n cap), (54, .int .i64 (ii : Int)), (55, .slice ad ii cap), (56, .pointer (some ⟨r56, 0, none⟩)), (8, .pointer (some ⟨r8, 0, none⟩))] (by kernel_rfl) ⟨q52, q53, q54, q55, q56, q8, trivial⟩
    clear hall hsame q52 q53 q54 q55 q56 q8
    simp only [List.foldl, List.setIfInBounds_toArray, List.set_cons_succ, List.set_cons_zero]
    have hb := hsn.below (B := W2.heap.size) (fun _ _ => rfl) (Nat.le_refl _)
    have rz := n8.1
    have LZ : Bx (w.heap.size ≤ Z) := ⟨by rw [HZ.out]; exact KW2.out.size⟩
    clear hsn n8 n56
    have AP1 := Bx.mk (ApC.fresh R_w0.out rz (by rw [HZ.out]; exact Nat.le_refl _))
    have KW3 := Bx.mk (KW2.out.trans (hb.mono KW2.out.size)); have HE4 := Bx.mk (HE3.out.below hb); have HH4 := Bx.mk (HH3.out.below hb); have R_w1 := Bx.mk (R_w0.out.below hb)
    clear hb KW2 HE3 HH3 R_w0
    have R_x0 := Bx.mk (rz.mono LZ.out)
    clear rz HZ LZ
    go_upto_region 11 with (fail)
    obtain ⟨Z, hZ⟩ : ∃ Z, Z = W3.heap.size := ⟨_, rfl⟩
    have HZ := Bx.mk hZ; clear hZ
    refine wp_region_seq8 (n := 252) VT11mk (fun _ => none) (VT11 Z st fi fk e1 ii kk n cap ad fL) (by kernel_rfl) rfl (fun _ _ => rfl) (fun j i hj _ => by cases hj) ?_ ?_ ?_
    · exact fun oi oj v own w own' w' hij h r => VT11_mono Z st fi fk e1 ii kk n cap ad fL oi oj v own w own' w' (by omega)  h r
    · intro oi o hi f u own hsame hsn hfr hlate hkeep8 hdep
      have hkeep := hkeep8 _ (Nat.le_refl _)
      have hb6 := hsn.below (B := W3.heap.size) (fun _ _ => rfl) (Nat.le_refl _)
      match oi, hi with
      | 0, hi =>
        cases (show some _ = some o from hi)
        have e4 : f.tmps.getD 4 undef = .int .u64 (st : Int) := hlate 4 (earlyS (by kernel_rfl))
        clear hdep hsame hi hlate hfr hkeep
        exact .inl ⟨wanted_none rfl, showsO_move hsn rfl _ rfl e4⟩
      | 1, hi =>
        cases (show some _ = some o from hi)
        have e5 : f.tmps.getD 5 undef = .int .i64 (ii : Int) := hlate 5 (earlyS (by kernel_rfl))
        clear hdep hsame hi hlate hfr hkeep
        exact .inl ⟨wanted_none rfl, showsO_move hsn rfl _ rfl e5⟩
      | 2, hi =>
        cases (show some _ = some o from hi)
        have e58 : (f.tmps.getD 58 undef) = .int .i64 (ii : Int) := depS (V := (VT11 Z st fi fk e1 ii kk n cap ad fL)) hdep 1 58 (by decide) (by kernel_rfl)
        clear hdep hsame hi hlate hfr hkeep
        have k1 := IK.out; have k2 := KN.out; have k3 := NL.out
        have d1 : IntKind.u64.wrap (ii : Int) = (ii : Int) := by simp [IntKind.wrap, IntKind.bits, IntKind.signed]; omega
        exact .inl ⟨wanted_none rfl, showsO_pure hsn rfl (.int .u64 (ii : Int)) (by simp only [execOp, Act.eval]; go_simp) rfl⟩
      | 3, hi =>
        cases (show some _ = some o from hi)
        have e57 : (f.tmps.getD 57 undef) = .int .u64 (st : Int) := depS (V := (VT11 Z st fi fk e1 ii kk n cap ad fL)) hdep 0 57 (by decide) (by kernel_rfl)
        have e59 : (f.tmps.getD 59 undef) = .int .u64 (ii : Int) := depS (V := (VT11 Z st fi fk e1 ii kk n cap ad fL)) hdep 2 59 (by decide) (by kernel_rfl)
        clear hdep hsame hi hlate hfr hkeep
        have d1 : IntKind.u64.wrap ((st : Int) + (ii : Int)) = (fi : Int) := by have k1 := IK.out; have k2 := KN.out; have k3 := SL.out; have k4 := FI.out; have k5 := FK.out; simp [IntKind.wrap, IntKind.bits, IntKind.signed]; omega
        exact .inl ⟨wanted_none rfl, showsO_pure hsn rfl (.int .u64 (fi : Int)) (by simp only [execOp, Act.eval]; go_simp) rfl⟩
      | 4, hi =>
        cases (show some _ = some o from hi)
        have e3 : f.tmps.getD 3 undef = .slice ad n cap := hlate 3 (earlyS (by kernel_rfl))
        clear hdep hsame hi hlate hfr hkeep
        exact .inl ⟨wanted_none rfl, showsO_move hsn rfl _ rfl e3⟩
      | 5, hi =>
        cases (show some _ = some o from hi)
        have e5 : f.tmps.getD 5 undef = .int .i64 (ii : Int) := hlate 5 (earlyS (by kernel_rfl))
        clear hdep hsame hi hlate hfr hkeep
        exact .inl ⟨wanted_none rfl, showsO_move hsn rfl _ rfl e5⟩
      | 6, hi =>
        cases (show some _ = some o from hi)
        have e6 : f.tmps.getD 6 undef = .int .i64 (kk : Int) := hlate 6 (earlyS (by kernel_rfl))
        clear hdep hsame hi hlate hfr hkeep
        exact .inl ⟨wanted_none rfl, showsO_move hsn rfl _ rfl e6⟩
      | 7, hi =>
        cases (show some _ = some o from hi)
        have e61 : (f.tmps.getD 61 undef) = .slice ad n cap := depS (V := (VT11 Z st fi fk e1 ii kk n cap ad fL)) hdep 4 61 (by decide) (by kernel_rfl)
        have e62 : (f.tmps.getD 62 undef) = .int .i64 (ii : Int) := depS (V := (VT11 Z st fi fk e1 ii kk n cap ad fL)) hdep 5 62 (by decide) (by kernel_rfl)
        have e63 : (f.tmps.getD 63 undef) = .int .i64 (kk : Int) := depS (V := (VT11 Z st fi fk e1 ii kk n cap ad fL)) hdep 6 63 (by decide) (by kernel_rfl)
        clear hdep hsame hi hlate hfr hkeep
        have hn0 := HNIL.out
        have hc0 := HC.out.1
        have k1 := IK.out
        have k2 := KN.out
        have h1 : (0 : Int) ≤ (ii : Int) := by omega
        have h2 : (ii : Int) ≤ (kk : Int) := by omega
        have h3 : (kk : Int) ≤ (cap : Int) := by omega
        have h3b : (kk : Int) ≤ (n : Int) := by omega
        have h3n : (ii : Int) ≤ (n : Int) := by omega
        exact .inl ⟨wanted_none rfl, showsO_pure hsn rfl (.slice (cutA ad cap ii) (kk - ii) (cap - ii)) (by rcases ad with _ | ad; (obtain rfl : cap = 0 := hn0 rfl; obtain rfl : n = 0 := (by omega); obtain rfl : kk = 0 := (by omega); obtain rfl : ii = 0 := (by omega); simp only [execOp, Act.eval]; unfold cutA; go_simp); (by_cases hce : cap = ii; (have h5 : cap - ii = 0 := (by omega); unfold cutA; rw [if_pos hce]; subst hce; simp only [execOp, Act.eval]; go_simp); (have h5 : ¬ (cap - ii = 0) := (by omega); unfold cutA; rw [if_neg hce]; simp only [execOp, Act.eval]; go_simp))) rfl⟩
      | 8, hi =>
        cases (show some _ = some o from hi)
        have e60 : (f.tmps.getD 60 undef) = .int .u64 (fi : Int) := depS (V := (VT11 Z st fi fk e1 ii kk n cap ad fL)) hdep 3 60 (by decide) (by kernel_rfl)
        have e64 : (f.tmps.getD 64 undef) = .slice (cutA ad cap ii) (kk - ii) (cap - ii) := depS (V := (VT11 Z st fi fk e1 ii kk n cap ad fL)) hdep 7 64 (by decide) (by kernel_rfl)
        clear hdep hsame hi hlate hfr hkeep
        have c := appended_any u fi _ _ _ _ ((Hss.cutC HH4.out (i := ii) (k := kk) (by have := IK.out; have := KN.out; omega) (by have := KN.out; omega)).below hb6) fL (fun t h => by rw [FC.out ii kk (by have := IK.out; have := KN.out; omega) (by rw [← HL.out]; have := KN.out; omega) t h, FI.out]) (HE4.out.below hb6).tab (by rw [List.length_drop, List.length_take, ← HL.out]; have := SL.out; have := IK.out; have := KN.out; have := FI.out; omega) (by rw [List.length_drop, List.length_take, ← HL.out]; omega)
        rw [show fi + (kk - ii) = fk by have := IK.out; have := KN.out; have := FI.out; have := FK.out; have := E1.out; omega] at c
        exact .inl ⟨wanted_none rfl, showsO_call (R := fun v w' => ∃ r s, v = .pointer (some ⟨r, 0, none⟩) ∧ RaP u.heap.size w' r fi fk (rowC fL fi fk) s) hsn rfl 16 #[.int .u64 (fi : Int), .slice (cutA ad cap ii) (kk - ii) (cap - ii)] (by simp only [execOp, Act.eval]; go_simp) (c.mono fun e w' ⟨r, h1, ⟨s, h2⟩, h3⟩ => ⟨_, h1, ⟨r, s, rfl, h2⟩, h3⟩) (fun v w' ⟨r, s, h1, h2⟩ _ => ⟨r, s, h1, h2.mono (by rw [HZ.out]; exact hb6.size), fun k hk => hsn.top k (h2.ge k hk)⟩)⟩
      | 9, hi =>
        cases (show some _ = some o from hi)
        have e65 : MadeR own u (f.tmps.getD 65 undef) fi fk Z (rowC fL fi fk) := depS (V := (VT11 Z st fi fk e1 ii kk n cap ad fL)) hdep 8 65 (by decide) (by kernel_rfl)
        clear hdep hsame hi hlate hfr hkeep
        exact .inl ⟨wanted_none rfl, showsO_assign hsn rfl _ rfl e65⟩
      | n + 10, hi => exact absurd hi (by simp)
    intro fr W4 own hsame hsn hall
    have q57 : fr.tmps.getD 57 undef = .int .u64 (st : Int) := finO (V := (VT11 Z st fi fk e1 ii kk n cap ad fL)) hall 0 57 rfl
    have q58 : fr.tmps.getD 58 undef = .int .i64 (ii : Int) := finO (V := (VT11 Z st fi fk e1 ii kk n cap ad fL)) hall 1 58 rfl
    have q59 : fr.tmps.getD 59 undef = .int .u64 (ii : Int) := finO (V := (VT11 Z st fi fk e1 ii kk n cap ad fL)) hall 2 59 rfl
    have q60 : fr.tmps.getD 60 undef = .int .u64 (fi : Int) := finO (V := (VT11 Z st fi fk e1 ii kk n cap ad fL)) hall 3 60 rfl
    have q61 : fr.tmps.getD 61 undef = .slice ad n cap := finO (V := (VT11 Z st fi fk e1 ii kk n cap ad fL)) hall 4 61 rfl
    have q62 : fr.tmps.getD 62 undef = .int .i64 (ii : Int) := finO (V := (VT11 Z st fi fk e1 ii kk n cap ad fL)) hall 5 62 rfl
    have q63 : fr.tmps.getD 63 undef = .int .i64 (kk : Int) := finO (V := (VT11 Z st fi fk e1 ii kk n cap ad fL)) hall 6 63 rfl
    have q64 : fr.tmps.getD 64 undef = .slice (cutA ad cap ii) (kk - ii) (cap - ii) := finO (V := (VT11 Z st fi fk e1 ii kk n cap ad fL)) hall 7 64 rfl
    obtain ⟨r65, s65, q65, n65⟩ := finO (V := (VT11 Z st fi fk e1 ii kk n cap ad fL)) hall 8 65 rfl
    obtain ⟨r9, s9, q9, n9⟩ := finO (V := (VT11 Z st fi fk e1 ii kk n cap ad fL)) hall 9 9 rfl
    obtain rfl := frame_eq hsame [(57, .int .u64 (st : Int)), (58, .int .i64 (ii : Int)), (59, .int .u64 (ii : Int)), (60, .int .u64 (fi : Int)), (61, .slice ad n cap), (62, .int .i64 (ii : Int)), (63, .int .i64 (kk : Int)), (64, .slice (cutA ad cap ii) (kk - ii) (cap - ii)), (65, .pointer (some ⟨r65, 0, none⟩)), (9, .pointer (some ⟨r9, 0, none⟩))] (by kernel_rfl) ⟨q57, q58, q59, q60, q61, q62, q63, q64, q65, q9, trivial⟩
    clear hall hsame q57 q58 q59 q60 q61 q62 q63 q64 q65 q9
    simp only [List.foldl, List.setIfInBounds_toArray, List.set_cons_succ, List.set_cons_zero]
    have hb := hsn.below (B := W3.heap.size) (fun _ _ => rfl) (Nat.le_refl _)
    have rz := n9.1
    have LZ : Bx (w.heap.size ≤ Z) := ⟨by rw [HZ.out]; exact KW3.out.size⟩
    clear hsn n9 n65
    have AP2 := Bx.mk (ApC.fresh R_w1.out rz (by rw [HZ.out]; exact Nat.le_refl _))
    have AP3 := Bx.mk (ApC.fresh R_x0.out rz (by rw [HZ.out]; exact Nat.le_refl _))
    have KW4 := Bx.mk (KW3.out.trans (hb.mono KW3.out.size)); have HE5 := Bx.mk (HE4.out.below hb); have HH5 := Bx.mk (HH4.out.below hb); have R_w2 := Bx.mk (R_w1.out.below hb); have R_x1 := Bx.mk (R_x0.out.below hb)
    clear hb KW3 HE4 HH4 R_w1 R_x0
    have R_y0 := Bx.mk (rz.mono LZ.out)
    clear rz HZ LZ
    go_upto_region 12 with (fail)
    obtain ⟨Z, hZ⟩ : ∃ Z, Z = W4.heap.size := ⟨_, rfl⟩
    have HZ := Bx.mk hZ; clear hZ
    refine wp_region_seq8 (n := 252) VT12mk (fun _ => none) (VT12 Z st fi fk e1 ii kk n cap ad fL) (by kernel_rfl) rfl (fun _ _ => rfl) (fun j i hj _ => by cases hj) ?_ ?_ ?_
    · exact fun oi oj v own w own' w' hij h r => VT12_mono Z st fi fk e1 ii kk n cap ad fL oi oj v own w own' w' (by omega)  h r
    · intro oi o hi f u own hsame hsn hfr hlate hkeep8 hdep
      have hkeep := hkeep8 _ (Nat.le_refl _)
      have hb6 := hsn.below (B := W4.heap.size) (fun _ _ => rfl) (Nat.le_refl _)
      match oi, hi with
      | 0, hi =>
        cases (show some _ = some o from hi)
        have e4 : f.tmps.getD 4 undef = .int .u64 (st : Int) := hlate 4 (earlyS (by kernel_rfl))
        clear hdep hsame hi hlate hfr hkeep
        exact .inl ⟨wanted_none rfl, showsO_move hsn rfl _ rfl e4⟩
      | 1, hi =>
        cases (show some _ = some o from hi)
        have e6 : f.tmps.getD 6 undef = .int .i64 (kk : Int) := hlate 6 (earlyS (by kernel_rfl))
        clear hdep hsame hi hlate hfr hkeep
        exact .inl ⟨wanted_none rfl, showsO_move hsn rfl _ rfl e6⟩
      | 2, hi =>
        cases (show some _ = some o from hi)
        have e67 : (f.tmps.getD 67 undef) = .int .i64 (kk : Int) := depS (V := (VT12 Z st fi fk e1 ii kk n cap ad fL)) hdep 1 67 (by decide) (by kernel_rfl)
        clear hdep hsame hi hlate hfr hkeep
        have k1 := IK.out; have k2 := KN.out; have k3 := NL.out
        have d1 : IntKind.u64.wrap (kk : Int) = (kk : Int) := by simp [IntKind.wrap, IntKind.bits, IntKind.signed]; omega
        exact .inl ⟨wanted_none rfl, showsO_pure hsn rfl (.int .u64 (kk : Int)) (by simp only [execOp, Act.eval]; go_simp) rfl⟩
      | 3, hi =>
        cases (show some _ = some o from hi)
        have e66 : (f.tmps.getD 66 undef) = .int .u64 (st : Int) := depS (V := (VT12 Z st fi fk e1 ii kk n cap ad fL)) hdep 0 66 (by decide) (by kernel_rfl)
        have e68 : (f.tmps.getD 68 undef) = .int .u64 (kk : Int) := depS (V := (VT12 Z st fi fk e1 ii kk n cap ad fL)) hdep 2 68 (by decide) (by kernel_rfl)
        clear hdep hsame hi hlate hfr hkeep
        have d1 : IntKind.u64.wrap ((st : Int) + (kk : Int)) = (fk : Int) := by have k1 := IK.out; have k2 := KN.out; have k3 := SL.out; have k4 := FI.out; have k5 := FK.out; simp [IntKind.wrap, IntKind.bits, IntKind.signed]; omega
        exact .inl ⟨wanted_none rfl, showsO_pure hsn rfl (.int .u64 (fk : Int)) (by simp only [execOp, Act.eval]; go_simp) rfl⟩
      | 4, hi =>
        cases (show some _ = some o from hi)
        have e3 : f.tmps.getD 3 undef = .slice ad n cap := hlate 3 (earlyS (by kernel_rfl))
        clear hdep hsame hi hlate hfr hkeep
        exact .inl ⟨wanted_none rfl, showsO_move hsn rfl _ rfl e3⟩
      | 5, hi =>
        cases (show some _ = some o from hi)
        have e6 : f.tmps.getD 6 undef = .int .i64 (kk : Int) := hlate 6 (earlyS (by kernel_rfl))
        clear hdep hsame hi hlate hfr hkeep
        exact .inl ⟨wanted_none rfl, showsO_move hsn rfl _ rfl e6⟩
      | 6, hi =>
        cases (show some _ = some o from hi)
        have e70 : (f.tmps.getD 70 undef) = .slice ad n cap := depS (V := (VT12 Z st fi fk e1 ii kk n cap ad fL)) hdep 4 70 (by decide) (by kernel_rfl)
        have e71 : (f.tmps.getD 71 undef) = .int .i64 (kk : Int) := depS (V := (VT12 Z st fi fk e1 ii kk n cap ad fL)) hdep 5 71 (by decide) (by kernel_rfl)
        clear hdep hsame hi hlate hfr hkeep
        have hn0 := HNIL.out
        have hc0 := HC.out.1
        have k1 := IK.out
        have k2 := KN.out
        have h1 : (0 : Int) ≤ (kk : Int) := by omega
        have h2 : (kk : Int) ≤ (n : Int) := by omega
        have h3 : (n : Int) ≤ (cap : Int) := by omega
        have h3b : (n : Int) ≤ (n : Int) := by omega
        have h3n : (kk : Int) ≤ (n : Int) := by omega
        exact .inl ⟨wanted_none rfl, showsO_pure hsn rfl (.slice (cutA ad cap kk) (n - kk) (cap - kk)) (by rcases ad with _ | ad; (obtain rfl : cap = 0 := hn0 rfl; obtain rfl : n = 0 := (by omega); obtain rfl : kk = 0 := (by omega); obtain rfl : ii = 0 := (by omega); simp only [execOp, Act.eval]; unfold cutA; go_simp); (by_cases hce : cap = kk; (have h5 : cap - kk = 0 := (by omega); unfold cutA; rw [if_pos hce]; subst hce; simp only [execOp, Act.eval]; go_simp); (have h5 : ¬ (cap - kk = 0) := (by omega); unfold cutA; rw [if_neg hce]; simp only [execOp, Act.eval]; go_simp))) rfl⟩
      | 7, hi =>
        cases (show some _ = some o from hi)
        have e69 : (f.tmps.getD 69 undef) = .int .u64 (fk : Int) := depS (V := (VT12 Z st fi fk e1 ii kk n cap ad fL)) hdep 3 69 (by decide) (by kernel_rfl)
        have e72 : (f.tmps.getD 72 undef) = .slice (cutA ad cap kk) (n - kk) (cap - kk) := depS (V := (VT12 Z st fi fk e1 ii kk n cap ad fL)) hdep 6 72 (by decide) (by kernel_rfl)
        clear hdep hsame hi hlate hfr hkeep
        have c := appended_any u fk _ _ _ _ ((Hss.cutC HH5.out (i := kk) (k := n) (by have := IK.out; have := KN.out; omega) (by have := KN.out; omega)).below hb6) fL (fun t h => by rw [FC.out kk n (by have := IK.out; have := KN.out; omega) (by rw [← HL.out]; have := KN.out; omega) t h, FK.out]) (HE5.out.below hb6).tab (by rw [List.length_drop, List.length_take, ← HL.out]; have := SL.out; have := IK.out; have := KN.out; have := FK.out; omega) (by rw [List.length_drop, List.length_take, ← HL.out]; omega)
        rw [show fk + (n - kk) = e1 by have := IK.out; have := KN.out; have := FI.out; have := FK.out; have := E1.out; omega] at c
        exact .inl ⟨wanted_none rfl, showsO_call (R := fun v w' => ∃ r s, v = .pointer (some ⟨r, 0, none⟩) ∧ RaP u.heap.size w' r fk e1 (rowC fL fk e1) s) hsn rfl 16 #[.int .u64 (fk : Int), .slice (cutA ad cap kk) (n - kk) (cap - kk)] (by simp only [execOp, Act.eval]; go_simp) (c.mono fun e w' ⟨r, h1, ⟨s, h2⟩, h3⟩ => ⟨_, h1, ⟨r, s, rfl, h2⟩, h3⟩) (fun v w' ⟨r, s, h1, h2⟩ _ => ⟨r, s, h1, h2.mono (by rw [HZ.out]; exact hb6.size), fun k hk => hsn.top k (h2.ge k hk)⟩)⟩
      | 8, hi =>
        cases (show some _ = some o from hi)
        have e73 : MadeR own u (f.tmps.getD 73 undef) fk e1 Z (rowC fL fk e1) := depS (V := (VT12 Z st fi fk e1 ii kk n cap ad fL)) hdep 7 73 (by decide) (by kernel_rfl)
        clear hdep hsame hi hlate hfr hkeep
        exact .inl ⟨wanted_none rfl, showsO_assign hsn rfl _ rfl e73⟩
      | n + 9, hi => exact absurd hi (by simp)
    intro fr W5 own hsame hsn hall
    have q66 : fr.tmps.getD 66 undef = .int .u64 (st : Int) := finO (V := (VT12 Z st fi fk e1 ii kk n cap ad fL)) hall 0 66 rfl
    have q67 : fr.tmps.getD 67 undef = .int .i64 (kk : Int) := finO (V := (VT12 Z st fi fk e1 ii kk n cap ad fL)) hall 1 67 rfl
    have q68 : fr.tmps.getD 68 undef = .int .u64 (kk : Int) := finO (V := (VT12 Z st fi fk e1 ii kk n cap ad fL)) hall 2 68 rfl
    have q69 : fr.tmps.getD 69 undef = .int .u64 (fk : Int) := finO (V := (VT12 Z st fi fk e1 ii kk n cap ad fL)) hall 3 69 rfl
    have q70 : fr.tmps.getD 70 undef = .slice ad n cap := finO (V := (VT12 Z st fi fk e1 ii kk n cap ad fL)) hall 4 70 rfl
    have q71 : fr.tmps.getD 71 undef = .int .i64 (kk : Int) := finO (V := (VT12 Z st fi fk e1 ii kk n cap ad fL)) hall 5 71 rfl
    have q72 : fr.tmps.getD 72 undef = .slice (cutA ad cap kk) (n - kk) (cap - kk) := finO (V := (VT12 Z st fi fk e1 ii kk n cap ad fL)) hall 6 72 rfl
    obtain ⟨r73, s73, q73, n73⟩ := finO (V := (VT12 Z st fi fk e1 ii kk n cap ad fL)) hall 7 73 rfl
    obtain ⟨r10, s10, q10, n10⟩ := finO (V := (VT12 Z st fi fk e1 ii kk n cap ad fL)) hall 8 10 rfl
    obtain rfl := frame_eq hsame [(66, .int .u64 (st : Int)), (67, .int .i64 (kk : Int)), (68, .int .u64 (kk : Int)), (69, .int .u64 (fk : Int)), (70, .slice ad n cap), (71, .int .i64 (kk : Int)), (72, .slice (cutA ad cap kk) (n - kk) (cap - kk)), (73, .pointer (some ⟨r73, 0, none⟩)), (10, .pointer (some ⟨r10, 0, none⟩))] (by kernel_rfl) ⟨q66, q67, q68, q69, q70, q71, q72, q73, q10, trivial⟩
    clear hall hsame q66 q67 q68 q69 q70 q71 q72 q73 q10
    simp only [List.foldl, List.setIfInBounds_toArray, List.set_cons_succ, List.set_cons_zero]
    have hb := hsn.below (B := W4.heap.size) (fun _ _ => rfl) (Nat.le_refl _)
    have rz := n10.1
    have LZ : Bx (w.heap.size ≤ Z) := ⟨by rw [HZ.out]; exact KW4.out.size⟩
    clear hsn n10 n73
    have AP4 := Bx.mk (ApC.fresh R_w2.out rz (by rw [HZ.out]; exact Nat.le_refl _))
    have AP5 := Bx.mk (ApC.fresh R_x1.out rz (by rw [HZ.out]; exact Nat.le_refl _))
    have AP6 := Bx.mk (ApC.fresh R_y0.out rz (by rw [HZ.out]; exact Nat.le_refl _))
    have KW5 := Bx.mk (KW4.out.trans (hb.mono KW4.out.size)); have HE6 := Bx.mk (HE5.out.below hb); have HH6 := Bx.mk (HH5.out.below hb); have R_w3 := Bx.mk (R_w2.out.below hb); have R_x2 := Bx.mk (R_x1.out.below hb); have R_y1 := Bx.mk (R_y0.out.below hb)
    clear hb KW4 HE5 HH5 R_w2 R_x1 R_y0
    have R_z0 := Bx.mk (rz.mono LZ.out)
    clear rz HZ LZ
    go_wp2_with fail
    refine (rcopy_any _ W5 r8 st fi (rowC fL st fi) s8 R_x2.out (Nat.le_trans (rowC_len (by have := SL.out; have := IK.out; have := KN.out; have := FI.out; have := FK.out; have := E1.out; omega)) (by decide))).mono ?_
    rintro e W6 ⟨r11, s11, rfl, hR, hb⟩
    have hlo := KW5.out.size
    have AP7 := Bx.mk (ApC.fresh R_w3.out hR (Nat.le_refl _))
    have AP8 := Bx.mk (ApC.fresh R_x2.out hR (Nat.le_refl _))
    have AP9 := Bx.mk (ApC.fresh R_y1.out hR (Nat.le_refl _))
    have AP10 := Bx.mk (ApC.fresh R_z0.out hR (Nat.le_refl _))
    have KW6 := Bx.mk (KW5.out.trans (hb.mono KW5.out.size)); have HE7 := Bx.mk (HE6.out.below hb); have HH7 := Bx.mk (HH6.out.below hb); have R_w4 := Bx.mk (R_w3.out.below hb); have R_x3 := Bx.mk (R_x2.out.below hb); have R_y2 := Bx.mk (R_y1.out.below hb); have R_z1 := Bx.mk (R_z0.out.below hb)
    clear hb KW5 HE6 HH6 R_w3 R_x2 R_y1 R_z0
    have R_l0 := Bx.mk (hR.mono hlo)
    clear hR hlo
    go_wp2_with fail
    refine (rcopy_any _ W6 r9 fi fk (rowC fL fi fk) s9 R_y2.out (Nat.le_trans (rowC_len (by have := SL.out; have := IK.out; have := KN.out; have := FI.out; have := FK.out; have := E1.out; omega)) (by decide))).mono ?_
    rintro e W7 ⟨r12, s12, rfl, hR, hb⟩
    have hlo := KW6.out.size
    have AP11 := Bx.mk (ApC.fresh R_w4.out hR (Nat.le_refl _))
    have AP12 := Bx.mk (ApC.fresh R_x3.out hR (Nat.le_refl _))
    have AP13 := Bx.mk (ApC.fresh R_y2.out hR (Nat.le_refl _))
    have AP14 := Bx.mk (ApC.fresh R_z1.out hR (Nat.le_refl _))
    have AP15 := Bx.mk (ApC.fresh R_l0.out hR (Nat.le_refl _))
    have KW7 := Bx.mk (KW6.out.trans (hb.mono KW6.out.size)); have HE8 := Bx.mk (HE7.out.below hb); have HH8 := Bx.mk (HH7.out.below hb); have R_w5 := Bx.mk (R_w4.out.below hb); have R_x4 := Bx.mk (R_x3.out.below hb); have R_y3 := Bx.mk (R_y2.out.below hb); have R_z2 := Bx.mk (R_z1.out.below hb); have R_l1 := Bx.mk (R_l0.out.below hb)
    clear hb KW6 HE7 HH7 R_w4 R_x3 R_y2 R_z1 R_l0
    have R_r0 := Bx.mk (hR.mono hlo)
    clear hR hlo
    go_wp2_with fail
    refine (rcopy_any _ W7 r8 st fi (rowC fL st fi) s8 R_x4.out (Nat.le_trans (rowC_len (by have := SL.out; have := IK.out; have := KN.out; have := FI.out; have := FK.out; have := E1.out; omega)) (by decide))).mono ?_
    rintro e W8 ⟨r13, s13, rfl, hR, hb⟩
    have hlo := KW7.out.size
    have AP16 := Bx.mk (ApC.fresh R_w5.out hR (Nat.le_refl _))
    have AP17 := Bx.mk (ApC.fresh R_x4.out hR (Nat.le_refl _))
    have AP18 := Bx.mk (ApC.fresh R_y3.out hR (Nat.le_refl _))
    have AP19 := Bx.mk (ApC.fresh R_z2.out hR (Nat.le_refl _))
    have AP20 := Bx.mk (ApC.fresh R_l1.out hR (Nat.le_refl _))
    have AP21 := Bx.mk (ApC.fresh R_r0.out hR (Nat.le_refl _))
    have KW8 := Bx.mk (KW7.out.trans (hb.mono KW7.out.size)); have HE9 := Bx.mk (HE8.out.below hb); have HH9 := Bx.mk (HH8.out.below hb); have R_w6 := Bx.mk (R_w5.out.below hb); have R_x5 := Bx.mk (R_x4.out.below hb); have R_y4 := Bx.mk (R_y3.out.below hb); have R_z3 := Bx.mk (R_z2.out.below hb); have R_l2 := Bx.mk (R_l1.out.below hb); have R_r1 := Bx.mk (R_r0.out.below hb)
    clear hb KW7 HE8 HH8 R_w5 R_x4 R_y3 R_z2 R_l1 R_r0
    have R_o0 := Bx.mk (hR.mono hlo)
    clear hR hlo
    go_upto_region 18 with (fail)
    have l1 : (rowC fL st fi).length ≤ 128 := rowC_len (by have := SL.out; have := IK.out; have := KN.out; have := FI.out; have := FK.out; have := E1.out; omega)
    have l2 : (rowC fL fi fk).length ≤ 128 := rowC_len (by have := SL.out; have := IK.out; have := KN.out; have := FI.out; have := FK.out; have := E1.out; omega)
    have cj := rjoin_any w.heap.size W8 r11 st fi (rowC fL st fi) s11 R_l2.out w.heap.size r9 fk (rowC fL fi fk) s9 R_y4.out (AP9.out.symm) (fun u hu => HEB.out.tab.below (KW8.out.trans hu)) KW8.out.size (by omega)
    rw [join_rows fL (b := st) (m := fi) (e := fk) (by have := SL.out; have := IK.out; have := KN.out; have := FI.out; have := FK.out; have := E1.out; omega) (by have := SL.out; have := IK.out; have := KN.out; have := FI.out; have := FK.out; have := E1.out; omega) (by have := SL.out; have := IK.out; have := KN.out; have := FI.out; have := FK.out; have := E1.out; omega)] at cj
    have CJ := Bx.mk cj; clear cj l1 l2
    go_wp2_with fail
    refine CJ.out.mono ?_
    clear CJ
    rintro e W9 ⟨rfl, sj1, hR, hk, hs⟩
    have hb := hk.below (B := w.heap.size) KW8.out.size (fun k h => R_l2.out.ge k h)
    have AP22 := Bx.mk (ApC.turn (AP7.out.symm) hs (fun k hk => R_w6.out.lt k hk))
    have AP23 := Bx.mk (ApC.turn (AP9.out.symm) hs (fun k hk => R_y4.out.lt k hk))
    have AP24 := Bx.mk (ApC.turn (AP10.out.symm) hs (fun k hk => R_z3.out.lt k hk))
    have AP25 := Bx.mk (ApC.turn (AP15.out) hs (fun k hk => R_r1.out.lt k hk))
    have AP26 := Bx.mk (ApC.turn (AP20.out) hs (fun k hk => R_o0.out.lt k hk))
    have R_w7 := Bx.mk (R_w6.out.kept hk (fun j hj h => AP7.out j hj h))
    have R_y5 := Bx.mk (R_y4.out.kept hk (fun j hj h => AP9.out j hj h))
    have R_z4 := Bx.mk (R_z3.out.kept hk (fun j hj h => AP10.out j hj h))
    have R_r2 := Bx.mk (R_r1.out.kept hk (fun j hj h => AP15.out.symm j hj h))
    have R_o1 := Bx.mk (R_o0.out.kept hk (fun j hj h => AP20.out.symm j hj h))
    have KW9 := Bx.mk (KW8.out.trans hb)
    have R_l3 := Bx.mk hR
    have HE10 := Bx.mk (HEB.out.below KW9.out)
    have HH10 := Bx.mk (HHB.out.below KW9.out)
    clear hb hk hs R_w6 R_y4 R_z3 R_r1 R_o0 KW8 R_l2 HE9 HH9
    clear hR
    have l1 : (rowC fL st fk).length ≤ 128 := rowC_len (by have := SL.out; have := IK.out; have := KN.out; have := FI.out; have := FK.out; have := E1.out; omega)
    have l2 : (rowC fL fk e1).length ≤ 128 := rowC_len (by have := SL.out; have := IK.out; have := KN.out; have := FI.out; have := FK.out; have := E1.out; omega)
    have cj := rjoin_any w.heap.size W9 r11 st fk (rowC fL st fk) sj1 R_l3.out w.heap.size r10 e1 (rowC fL fk e1) s10 R_z4.out (AP24.out) (fun u hu => HEB.out.tab.below (KW9.out.trans hu)) KW9.out.size (by omega)
    rw [join_rows fL (b := st) (m := fk) (e := e1) (by have := SL.out; have := IK.out; have := KN.out; have := FI.out; have := FK.out; have := E1.out; omega) (by have := SL.out; have := IK.out; have := KN.out; have := FI.out; have := FK.out; have := E1.out; omega) (by have := SL.out; have := IK.out; have := KN.out; have := FI.out; have := FK.out; have := E1.out; omega)] at cj
    have CJ := Bx.mk cj; clear cj l1 l2
    go_wp2_with fail
    refine CJ.out.mono ?_
    clear CJ
    rintro e W10 ⟨rfl, sj2, hR, hk, hs⟩
    have hb := hk.below (B := w.heap.size) KW9.out.size (fun k h => R_l3.out.ge k h)
    have AP27 := Bx.mk (ApC.turn (AP22.out) hs (fun k hk => R_w7.out.lt k hk))
    have AP28 := Bx.mk (ApC.turn (AP23.out) hs (fun k hk => R_y5.out.lt k hk))
    have AP29 := Bx.mk (ApC.turn (AP24.out) hs (fun k hk => R_z4.out.lt k hk))
    have AP30 := Bx.mk (ApC.turn (AP25.out) hs (fun k hk => R_r2.out.lt k hk))
    have AP31 := Bx.mk (ApC.turn (AP26.out) hs (fun k hk => R_o1.out.lt k hk))
    have R_w8 := Bx.mk (R_w7.out.kept hk (fun j hj h => AP22.out.symm j hj h))
    have R_y6 := Bx.mk (R_y5.out.kept hk (fun j hj h => AP23.out.symm j hj h))
    have R_z5 := Bx.mk (R_z4.out.kept hk (fun j hj h => AP24.out.symm j hj h))
    have R_r3 := Bx.mk (R_r2.out.kept hk (fun j hj h => AP25.out.symm j hj h))
    have R_o2 := Bx.mk (R_o1.out.kept hk (fun j hj h => AP26.out.symm j hj h))
    have KW10 := Bx.mk (KW9.out.trans hb)
    have R_l4 := Bx.mk hR
    have HE11 := Bx.mk (HEB.out.below KW10.out)
    have HH11 := Bx.mk (HHB.out.below KW10.out)
    clear hb hk hs R_w7 R_y5 R_z4 R_r2 R_o1 KW9 R_l3 HE10 HH10
    clear hR
    have l1 : (rowC fL fi fk).length ≤ 128 := rowC_len (by have := SL.out; have := IK.out; have := KN.out; have := FI.out; have := FK.out; have := E1.out; omega)
    have l2 : (rowC fL fk e1).length ≤ 128 := rowC_len (by have := SL.out; have := IK.out; have := KN.out; have := FI.out; have := FK.out; have := E1.out; omega)
    have cj := rjoin_any w.heap.size W10 r12 fi fk (rowC fL fi fk) s12 R_r3.out w.heap.size r10 e1 (rowC fL fk e1) s10 R_z5.out (AP14.out.symm) (fun u hu => HEB.out.tab.below (KW10.out.trans hu)) KW10.out.size (by omega)
    rw [join_rows fL (b := fi) (m := fk) (e := e1) (by have := SL.out; have := IK.out; have := KN.out; have := FI.out; have := FK.out; have := E1.out; omega) (by have := SL.out; have := IK.out; have := KN.out; have := FI.out; have := FK.out; have := E1.out; omega) (by have := SL.out; have := IK.out; have := KN.out; have := FI.out; have := FK.out; have := E1.out; omega)] at cj
    have CJ := Bx.mk cj; clear cj l1 l2
    go_wp2_with fail
    refine CJ.out.mono ?_
    clear CJ
    rintro e W11 ⟨rfl, sj3, hR, hk, hs⟩
    have hb := hk.below (B := w.heap.size) KW10.out.size (fun k h => R_r3.out.ge k h)
    have AP32 := Bx.mk (ApC.turn (AP11.out.symm) hs (fun k hk => R_w8.out.lt k hk))
    have AP33 := Bx.mk (ApC.turn (AP13.out.symm) hs (fun k hk => R_y6.out.lt k hk))
    have AP34 := Bx.mk (ApC.turn (AP14.out.symm) hs (fun k hk => R_z5.out.lt k hk))
    have AP35 := Bx.mk (ApC.turn (AP30.out.symm) hs (fun k hk => R_l4.out.lt k hk))
    have AP36 := Bx.mk (ApC.turn (AP21.out) hs (fun k hk => R_o2.out.lt k hk))
    have R_w9 := Bx.mk (R_w8.out.kept hk (fun j hj h => AP11.out j hj h))
    have R_y7 := Bx.mk (R_y6.out.kept hk (fun j hj h => AP13.out j hj h))
    have R_z6 := Bx.mk (R_z5.out.kept hk (fun j hj h => AP14.out j hj h))
    have R_l5 := Bx.mk (R_l4.out.kept hk (fun j hj h => AP30.out j hj h))
    have R_o3 := Bx.mk (R_o2.out.kept hk (fun j hj h => AP21.out.symm j hj h))
    have KW11 := Bx.mk (KW10.out.trans hb)
    have R_r4 := Bx.mk hR
    have HE12 := Bx.mk (HEB.out.below KW11.out)
    have HH12 := Bx.mk (HHB.out.below KW11.out)
    clear hb hk hs R_w8 R_y6 R_z5 R_l4 R_o2 KW10 R_r3 HE11 HH11
    clear hR
    have l1 : (rowC fL st fi).length ≤ 128 := rowC_len (by have := SL.out; have := IK.out; have := KN.out; have := FI.out; have := FK.out; have := E1.out; omega)
    have l2 : (rowC fL fi e1).length ≤ 128 := rowC_len (by have := SL.out; have := IK.out; have := KN.out; have := FI.out; have := FK.out; have := E1.out; omega)
    have cj := rjoin_any w.heap.size W11 r13 st fi (rowC fL st fi) s13 R_o3.out w.heap.size r12 e1 (rowC fL fi e1) sj3 R_r4.out (AP36.out.symm) (fun u hu => HEB.out.tab.below (KW11.out.trans hu)) KW11.out.size (by omega)
    rw [join_rows fL (b := st) (m := fi) (e := e1) (by have := SL.out; have := IK.out; have := KN.out; have := FI.out; have := FK.out; have := E1.out; omega) (by have := SL.out; have := IK.out; have := KN.out; have := FI.out; have := FK.out; have := E1.out; omega) (by have := SL.out; have := IK.out; have := KN.out; have := FI.out; have := FK.out; have := E1.out; omega)] at cj
    have CJ := Bx.mk cj; clear cj l1 l2
    go_wp2_with fail
    refine CJ.out.mono ?_
    clear CJ
    rintro e W12 ⟨rfl, sj4, hR, hk, hs⟩
    have hb := hk.below (B := w.heap.size) KW11.out.size (fun k h => R_o3.out.ge k h)
    have AP37 := Bx.mk (ApC.turn (AP16.out.symm) hs (fun k hk => R_w9.out.lt k hk))
    have AP38 := Bx.mk (ApC.turn (AP18.out.symm) hs (fun k hk => R_y7.out.lt k hk))
    have AP39 := Bx.mk (ApC.turn (AP19.out.symm) hs (fun k hk => R_z6.out.lt k hk))
    have AP40 := Bx.mk (ApC.turn (AP31.out.symm) hs (fun k hk => R_l5.out.lt k hk))
    have AP41 := Bx.mk (ApC.turn (AP36.out.symm) hs (fun k hk => R_r4.out.lt k hk))
    have R_w10 := Bx.mk (R_w9.out.kept hk (fun j hj h => AP16.out j hj h))
    have R_y8 := Bx.mk (R_y7.out.kept hk (fun j hj h => AP18.out j hj h))
    have R_z7 := Bx.mk (R_z6.out.kept hk (fun j hj h => AP19.out j hj h))
    have R_l6 := Bx.mk (R_l5.out.kept hk (fun j hj h => AP31.out j hj h))
    have R_r5 := Bx.mk (R_r4.out.kept hk (fun j hj h => AP36.out j hj h))
    have KW12 := Bx.mk (KW11.out.trans hb)
    have R_o4 := Bx.mk hR
    have HE13 := Bx.mk (HEB.out.below KW12.out)
    have HH13 := Bx.mk (HHB.out.below KW12.out)
    clear hb hk hs R_w9 R_y7 R_z6 R_l5 R_r4 KW11 R_o3 HE12 HH12
    clear hR
    obtain ⟨k, hk⟩ : ∃ k, k = (rowC fL st e1).length := ⟨_, rfl⟩
    have KL : Bx (k ≤ 128) := ⟨by rw [hk]; exact rowC_len (by have := SL.out; have := IK.out; have := KN.out; have := FI.out; have := FK.out; have := E1.out; omega)⟩
    obtain ⟨hs, hhs⟩ : ∃ hs, hs = hsC (rowC fL st e1) := ⟨_, rfl⟩
    have HHS := Bx.mk hhs; have HK := Bx.mk hk
    have S32 : Bx (∀ x ∈ hs, x.length = 32) := ⟨by rw [hhs]; exact hsC_mem R_w10.out.h32⟩
    have KH : Bx (k = hs.length) := ⟨by rw [hhs, hsC_len, hk]⟩
    clear hhs hk
    have ch := rhss_any w.heap.size W12 r7 st e1 _ s7 k HK.out hs HHS.out R_w10.out (by have := KL.out; omega) W12.heap.size (Nat.le_refl _)
    have CH := Bx.mk ch; clear ch
    go_wp2_with fail
    refine CH.out.mono ?_
    clear CH
    rintro e W13 ⟨v14, rfl, ⟨hrow, -⟩, hb⟩
    obtain ⟨a14, c14, rfl, -, -, hn14⟩ := own_shape hrow
    have O0 := Bx.mk hrow
    clear hrow hn14
    have KW13 := Bx.mk (KW12.out.trans (hb.mono KW12.out.size)); have HE14 := Bx.mk (HE13.out.below hb); have HH14 := Bx.mk (HH13.out.below hb); have R_w11 := Bx.mk (R_w10.out.below hb); have R_y9 := Bx.mk (R_y8.out.below hb); have R_z8 := Bx.mk (R_z7.out.below hb); have R_l7 := Bx.mk (R_l6.out.below hb); have R_o5 := Bx.mk (R_o4.out.below hb)
    clear hb KW12 HE13 HH13 R_w10 R_y8 R_z7 R_l6 R_o4
    go_wp2_with fail
    refine (rspan_any R_w11.out).mono ?_
    rintro e W14 ⟨rfl, hb⟩
    have KW14 := Bx.mk (KW13.out.trans (hb.mono KW13.out.size)); have HE15 := Bx.mk (HE14.out.below hb); have HH15 := Bx.mk (HH14.out.below hb); have R_w12 := Bx.mk (R_w11.out.below hb); have R_y10 := Bx.mk (R_y9.out.below hb); have R_z9 := Bx.mk (R_z8.out.below hb); have R_l8 := Bx.mk (R_l7.out.below hb); have R_o6 := Bx.mk (R_o5.out.below hb); have O1 := Bx.mk (own_keep O0.out (Keep.of_below hb (fun _ => False)) (fun _ _ h => h))
    clear hb KW13 HE14 HH14 R_w11 R_y9 R_z8 R_l7 R_o5 O0
    have cl := rload_any W14 st e1 (by have := SL.out; have := IK.out; have := KN.out; have := FI.out; have := FK.out; have := E1.out; omega) (by have := SL.out; have := IK.out; have := KN.out; have := FI.out; have := FK.out; have := E1.out; omega) a14 k c14 hs (hss_own O1.out S32.out KH.out) HE15.out.tz HE15.out.lt (by rw [← rowC_co fL st e1, List.length_map, ← HK.out])
    unfold sv at cl
    rw [HHS.out, zipC_row] at cl
    have CL := Bx.mk cl; clear cl
    go_wp2_with fail
    refine CL.out.mono ?_
    clear CL
    rintro e W15 ⟨r15, s15, rfl, hR, hb⟩
    have hlo := KW14.out.size
    have AP42 := Bx.mk (ApC.fresh R_w12.out hR (Nat.le_refl _))
    have AP43 := Bx.mk (ApC.fresh R_y10.out hR (Nat.le_refl _))
    have AP44 := Bx.mk (ApC.fresh R_z9.out hR (Nat.le_refl _))
    have AP45 := Bx.mk (ApC.fresh R_l8.out hR (Nat.le_refl _))
    have AP46 := Bx.mk (ApC.fresh R_o6.out hR (Nat.le_refl _))
    have KW15 := Bx.mk (KW14.out.trans (hb.mono KW14.out.size)); have HE16 := Bx.mk (HE15.out.below hb); have HH16 := Bx.mk (HH15.out.below hb); have R_w13 := Bx.mk (R_w12.out.below hb); have R_y11 := Bx.mk (R_y10.out.below hb); have R_z10 := Bx.mk (R_z9.out.below hb); have R_l9 := Bx.mk (R_l8.out.below hb); have R_o7 := Bx.mk (R_o6.out.below hb); have O2 := Bx.mk (own_keep O1.out (Keep.of_below hb (fun _ => False)) (fun _ _ h => h))
    clear hb KW14 HE15 HH15 R_w12 R_y10 R_z9 R_l8 R_o6 O1
    have R_d0 := Bx.mk (hR.mono hlo)
    clear hR hlo
    go_upto_region 22 with (fail)
    refine wp_region_seq8 (n := 252) VT22mk (fun _ => none) (VT22 st e1 n cap r7 r11 r13 r15 ad) (by kernel_rfl) rfl (fun _ _ => rfl) (fun j i hj _ => by cases hj) ?_ ?_ ?_
    · exact fun oi oj v own w own' w' hij h r => VT22_mono st e1 n cap r7 r11 r13 r15 ad oi oj v own w own' w' (by omega)  h r
    · intro oi o hi f u own hsame hsn hfr hlate hkeep8 hdep
      have hkeep := hkeep8 _ (Nat.le_refl _)
      have hb6 := hsn.below (B := W15.heap.size) (fun _ _ => rfl) (Nat.le_refl _)
      match oi, hi with
      | 0, hi =>
        cases (show some _ = some o from hi)
        have e16 : f.tmps.getD 16 undef = .nilIface := hlate 16 (earlyS (by kernel_rfl))
        clear hdep hsame hi hlate hfr hkeep
        exact .inl ⟨wanted_none rfl, showsO_move hsn rfl _ rfl e16⟩
      | 1, hi =>
        cases (show some _ = some o from hi)
        have e137 : (f.tmps.getD 137 undef) = .nilIface := depS (V := (VT22 st e1 n cap r7 r11 r13 r15 ad)) hdep 0 137 (by decide) (by kernel_rfl)
        clear hdep hsame hi hlate hfr hkeep
        exact .inl ⟨wanted_none rfl, showsO_pure hsn rfl (.bool false) (by simp only [execOp, Act.eval]; go_simp) rfl⟩
      | 2, hi =>
        cases (show some _ = some o from hi)
        have e138 : (f.tmps.getD 138 undef) = .bool false := depS (V := (VT22 st e1 n cap r7 r11 r13 r15 ad)) hdep 1 138 (by decide) (by kernel_rfl)
        clear hdep hsame hi hlate hfr hkeep
        exact .inl ⟨wanted_none rfl, showsO_move hsn rfl _ rfl e138⟩
      | 3, hi =>
        cases (show some _ = some o from hi)
        have e15 : f.tmps.getD 15 undef = .pointer (some ⟨r15, 0, none⟩) := hlate 15 (earlyS (by kernel_rfl))
        have eg : f.tmps.getD 139 undef = .bool false := depS (V := (VT22 st e1 n cap r7 r11 r13 r15 ad)) hdep 2 139 (by decide) (by kernel_rfl)
        clear hdep hsame hi hlate hfr hkeep
        exact .inl ⟨wanted_of 2 rfl eg (by kernel_rfl), showsO_move hsn rfl _ rfl e15⟩
      | 4, hi =>
        cases (show some _ = some o from hi)
        have e140 : (f.tmps.getD 140 undef) = .pointer (some ⟨r15, 0, none⟩) := depS (V := (VT22 st e1 n cap r7 r11 r13 r15 ad)) hdep 3 140 (by decide) (by kernel_rfl)
        have eg : f.tmps.getD 139 undef = .bool false := depS (V := (VT22 st e1 n cap r7 r11 r13 r15 ad)) hdep 2 139 (by decide) (by kernel_rfl)
        clear hdep hsame hi hlate hfr hkeep
        exact .inl ⟨wanted_of 2 rfl eg (by kernel_rfl), showsO_pure hsn rfl (.bool false) (by simp only [execOp, Act.eval]; go_simp) rfl⟩
      | 5, hi =>
        cases (show some _ = some o from hi)
        have e139 : (f.tmps.getD 139 undef) = .bool false := depS (V := (VT22 st e1 n cap r7 r11 r13 r15 ad)) hdep 2 139 (by decide) (by kernel_rfl)
        have e141 : (f.tmps.getD 141 undef) = .bool false := depS (V := (VT22 st e1 n cap r7 r11 r13 r15 ad)) hdep 4 141 (by decide) (by kernel_rfl)
        clear hdep hsame hi hlate hfr hkeep
        exact .inl ⟨wanted_none rfl, showsO_pure hsn rfl (.bool false) (by simp only [execOp, Act.eval]; go_simp) rfl⟩
      | 6, hi =>
        cases (show some _ = some o from hi)
        have e142 : (f.tmps.getD 142 undef) = .bool false := depS (V := (VT22 st e1 n cap r7 r11 r13 r15 ad)) hdep 5 142 (by decide) (by kernel_rfl)
        clear hdep hsame hi hlate hfr hkeep
        exact .inl ⟨wanted_none rfl, showsO_move hsn rfl _ rfl e142⟩
      | 7, hi =>
        cases (show some _ = some o from hi)
        have e7 : f.tmps.getD 7 undef = .pointer (some ⟨r7, 0, none⟩) := hlate 7 (earlyS (by kernel_rfl))
        have eg : f.tmps.getD 143 undef = .bool false := depS (V := (VT22 st e1 n cap r7 r11 r13 r15 ad)) hdep 6 143 (by decide) (by kernel_rfl)
        clear hdep hsame hi hlate hfr hkeep
        exact .inl ⟨wanted_of 6 rfl eg (by kernel_rfl), showsO_move hsn rfl _ rfl e7⟩
      | 8, hi =>
        cases (show some _ = some o from hi)
        have e144 : (f.tmps.getD 144 undef) = .pointer (some ⟨r7, 0, none⟩) := depS (V := (VT22 st e1 n cap r7 r11 r13 r15 ad)) hdep 7 144 (by decide) (by kernel_rfl)
        have eg : f.tmps.getD 143 undef = .bool false := depS (V := (VT22 st e1 n cap r7 r11 r13 r15 ad)) hdep 6 143 (by decide) (by kernel_rfl)
        clear hdep hsame hi hlate hfr hkeep
        have c := rspan_any (R_w13.out.below hb6)
        exact .inl ⟨wanted_of 6 rfl eg (by kernel_rfl), showsO_call1 hsn rfl 20 #[.pointer (some ⟨r7, 0, none⟩)] (by simp only [execOp, Act.eval]; go_simp) (c) (fun _ => rfl)⟩
      | 9, hi =>
        cases (show some _ = some o from hi)
        have e4 : f.tmps.getD 4 undef = .int .u64 (st : Int) := hlate 4 (earlyS (by kernel_rfl))
        have eg : f.tmps.getD 143 undef = .bool false := depS (V := (VT22 st e1 n cap r7 r11 r13 r15 ad)) hdep 6 143 (by decide) (by kernel_rfl)
        clear hdep hsame hi hlate hfr hkeep
        exact .inl ⟨wanted_of 6 rfl eg (by kernel_rfl), showsO_move hsn rfl _ rfl e4⟩
      | 10, hi =>
        cases (show some _ = some o from hi)
        have e4 : f.tmps.getD 4 undef = .int .u64 (st : Int) := hlate 4 (earlyS (by kernel_rfl))
        have eg : f.tmps.getD 143 undef = .bool false := depS (V := (VT22 st e1 n cap r7 r11 r13 r15 ad)) hdep 6 143 (by decide) (by kernel_rfl)
        clear hdep hsame hi hlate hfr hkeep
        exact .inl ⟨wanted_of 6 rfl eg (by kernel_rfl), showsO_move hsn rfl _ rfl e4⟩
      | 11, hi =>
        cases (show some _ = some o from hi)
        have e3 : f.tmps.getD 3 undef = .slice ad n cap := hlate 3 (earlyS (by kernel_rfl))
        have eg : f.tmps.getD 143 undef = .bool false := depS (V := (VT22 st e1 n cap r7 r11 r13 r15 ad)) hdep 6 143 (by decide) (by kernel_rfl)
        clear hdep hsame hi hlate hfr hkeep
        exact .inl ⟨wanted_of 6 rfl eg (by kernel_rfl), showsO_move hsn rfl _ rfl e3⟩
      | 12, hi =>
        cases (show some _ = some o from hi)
        have e148 : (f.tmps.getD 148 undef) = .slice ad n cap := depS (V := (VT22 st e1 n cap r7 r11 r13 r15 ad)) hdep 11 148 (by decide) (by kernel_rfl)
        have eg : f.tmps.getD 143 undef = .bool false := depS (V := (VT22 st e1 n cap r7 r11 r13 r15 ad)) hdep 6 143 (by decide) (by kernel_rfl)
        clear hdep hsame hi hlate hfr hkeep
        exact .inl ⟨wanted_of 6 rfl eg (by kernel_rfl), showsO_pure hsn rfl (.int .i64 (n : Int)) (by simp only [execOp, Act.eval]; go_simp) rfl⟩
      | 13, hi =>
        cases (show some _ = some o from hi)
        have e149 : (f.tmps.getD 149 undef) = .int .i64 (n : Int) := depS (V := (VT22 st e1 n cap r7 r11 r13 r15 ad)) hdep 12 149 (by decide) (by kernel_rfl)
        have eg : f.tmps.getD 143 undef = .bool false := depS (V := (VT22 st e1 n cap r7 r11 r13 r15 ad)) hdep 6 143 (by decide) (by kernel_rfl)
        clear hdep hsame hi hlate hfr hkeep
        have k3 := NL.out
        have d1 : IntKind.u64.wrap (n : Int) = (n : Int) := by simp [IntKind.wrap, IntKind.bits, IntKind.signed]; omega
        exact .inl ⟨wanted_of 6 rfl eg (by kernel_rfl), showsO_pure hsn rfl (.int .u64 (n : Int)) (by simp only [execOp, Act.eval]; go_simp) rfl⟩
      | 14, hi =>
        cases (show some _ = some o from hi)
        have e147 : (f.tmps.getD 147 undef) = .int .u64 (st : Int) := depS (V := (VT22 st e1 n cap r7 r11 r13 r15 ad)) hdep 10 147 (by decide) (by kernel_rfl)
        have e150 : (f.tmps.getD 150 undef) = .int .u64 (n : Int) := depS (V := (VT22 st e1 n cap r7 r11 r13 r15 ad)) hdep 13 150 (by decide) (by kernel_rfl)
        have eg : f.tmps.getD 143 undef = .bool false := depS (V := (VT22 st e1 n cap r7 r11 r13 r15 ad)) hdep 6 143 (by decide) (by kernel_rfl)
        clear hdep hsame hi hlate hfr hkeep
        have d1 : IntKind.u64.wrap ((st : Int) + (n : Int)) = (e1 : Int) := by have k3 := SL.out; have k4 := E1.out; simp [IntKind.wrap, IntKind.bits, IntKind.signed]; omega
        exact .inl ⟨wanted_of 6 rfl eg (by kernel_rfl), showsO_pure hsn rfl (.int .u64 (e1 : Int)) (by simp only [execOp, Act.eval]; go_simp) rfl⟩
      | 15, hi =>
        cases (show some _ = some o from hi)
        have e146 : (f.tmps.getD 146 undef) = .int .u64 (st : Int) := depS (V := (VT22 st e1 n cap r7 r11 r13 r15 ad)) hdep 9 146 (by decide) (by kernel_rfl)
        have e151 : (f.tmps.getD 151 undef) = .int .u64 (e1 : Int) := depS (V := (VT22 st e1 n cap r7 r11 r13 r15 ad)) hdep 14 151 (by decide) (by kernel_rfl)
        have eg : f.tmps.getD 143 undef = .bool false := depS (V := (VT22 st e1 n cap r7 r11 r13 r15 ad)) hdep 6 143 (by decide) (by kernel_rfl)
        clear hdep hsame hi hlate hfr hkeep
        obtain ⟨X1, hX1⟩ : ∃ x, x = (st : Int) := ⟨_, rfl⟩
        clear hX1 X1
        exact .inl ⟨wanted_of 6 rfl eg (by kernel_rfl), showsO_build hsn rfl 39 #[(0, .tmp 146), (1, .tmp 151)] rfl #[.int .u64 (st : Int), .int .u64 (e1 : Int)] (by simp only [List.map_toArray, List.map_cons, List.map_nil, Act.eval]; rw [e146, e151]; exact built_spanC _ _) rfl⟩
      | 16, hi =>
        cases (show some _ = some o from hi)
        have e145 : (f.tmps.getD 145 undef) = .agg #[.int .u64 (st : Int), .int .u64 (e1 : Int)] := depS (V := (VT22 st e1 n cap r7 r11 r13 r15 ad)) hdep 8 145 (by decide) (by kernel_rfl)
        have e152 : (f.tmps.getD 152 undef) = .agg #[.int .u64 (st : Int), .int .u64 (e1 : Int)] := depS (V := (VT22 st e1 n cap r7 r11 r13 r15 ad)) hdep 15 152 (by decide) (by kernel_rfl)
        have eg : f.tmps.getD 143 undef = .bool false := depS (V := (VT22 st e1 n cap r7 r11 r13 r15 ad)) hdep 6 143 (by decide) (by kernel_rfl)
        clear hdep hsame hi hlate hfr hkeep
        exact .inl ⟨wanted_of 6 rfl eg (by kernel_rfl), showsO_pure hsn rfl (.bool false) (by simp only [execOp, Act.eval]; first | (go_simp; done) | (go_simp <;> rfl)) rfl⟩
      | 17, hi =>
        cases (show some _ = some o from hi)
        have e143 : (f.tmps.getD 143 undef) = .bool false := depS (V := (VT22 st e1 n cap r7 r11 r13 r15 ad)) hdep 6 143 (by decide) (by kernel_rfl)
        have e153 : (f.tmps.getD 153 undef) = .bool false := depS (V := (VT22 st e1 n cap r7 r11 r13 r15 ad)) hdep 16 153 (by decide) (by kernel_rfl)
        clear hdep hsame hi hlate hfr hkeep
        exact .inl ⟨wanted_none rfl, showsO_pure hsn rfl (.bool false) (by simp only [execOp, Act.eval]; go_simp) rfl⟩
      | 18, hi =>
        cases (show some _ = some o from hi)
        have e154 : (f.tmps.getD 154 undef) = .bool false := depS (V := (VT22 st e1 n cap r7 r11 r13 r15 ad)) hdep 17 154 (by decide) (by kernel_rfl)
        clear hdep hsame hi hlate hfr hkeep
        exact .inl ⟨wanted_none rfl, showsO_move hsn rfl _ rfl e154⟩
      | 19, hi =>
        cases (show some _ = some o from hi)
        have e11 : f.tmps.getD 11 undef = .pointer (some ⟨r11, 0, none⟩) := hlate 11 (earlyS (by kernel_rfl))
        have eg : f.tmps.getD 155 undef = .bool false := depS (V := (VT22 st e1 n cap r7 r11 r13 r15 ad)) hdep 18 155 (by decide) (by kernel_rfl)
        clear hdep hsame hi hlate hfr hkeep
        exact .inl ⟨wanted_of 18 rfl eg (by kernel_rfl), showsO_move hsn rfl _ rfl e11⟩
      | 20, hi =>
        cases (show some _ = some o from hi)
        have e156 : (f.tmps.getD 156 undef) = .pointer (some ⟨r11, 0, none⟩) := depS (V := (VT22 st e1 n cap r7 r11 r13 r15 ad)) hdep 19 156 (by decide) (by kernel_rfl)
        have eg : f.tmps.getD 155 undef = .bool false := depS (V := (VT22 st e1 n cap r7 r11 r13 r15 ad)) hdep 18 155 (by decide) (by kernel_rfl)
        clear hdep hsame hi hlate hfr hkeep
        have c := rspan_any (R_l9.out.below hb6)
        exact .inl ⟨wanted_of 18 rfl eg (by kernel_rfl), showsO_call1 hsn rfl 20 #[.pointer (some ⟨r11, 0, none⟩)] (by simp only [execOp, Act.eval]; go_simp) (c) (fun _ => rfl)⟩
      | 21, hi =>
        cases (show some _ = some o from hi)
        have e7 : f.tmps.getD 7 undef = .pointer (some ⟨r7, 0, none⟩) := hlate 7 (earlyS (by kernel_rfl))
        have eg : f.tmps.getD 155 undef = .bool false := depS (V := (VT22 st e1 n cap r7 r11 r13 r15 ad)) hdep 18 155 (by decide) (by kernel_rfl)
        clear hdep hsame hi hlate hfr hkeep
        exact .inl ⟨wanted_of 18 rfl eg (by kernel_rfl), showsO_move hsn rfl _ rfl e7⟩
      | 22, hi =>
        cases (show some _ = some o from hi)
        have e158 : (f.tmps.getD 158 undef) = .pointer (some ⟨r7, 0, none⟩) := depS (V := (VT22 st e1 n cap r7 r11 r13 r15 ad)) hdep 21 158 (by decide) (by kernel_rfl)
        have eg : f.tmps.getD 155 undef = .bool false := depS (V := (VT22 st e1 n cap r7 r11 r13 r15 ad)) hdep 18 155 (by decide) (by kernel_rfl)
        clear hdep hsame hi hlate hfr hkeep
        have c := rspan_any (R_w13.out.below hb6)
        exact .inl ⟨wanted_of 18 rfl eg (by kernel_rfl), showsO_call1 hsn rfl 20 #[.pointer (some ⟨r7, 0, none⟩)] (by simp only [execOp, Act.eval]; go_simp) (c) (fun _ => rfl)⟩
      | 23, hi =>
        cases (show some _ = some o from hi)
        have e157 : (f.tmps.getD 157 undef) = .agg #[.int .u64 (st : Int), .int .u64 (e1 : Int)] := depS (V := (VT22 st e1 n cap r7 r11 r13 r15 ad)) hdep 20 157 (by decide) (by kernel_rfl)
        have e159 : (f.tmps.getD 159 undef) = .agg #[.int .u64 (st : Int), .int .u64 (e1 : Int)] := depS (V := (VT22 st e1 n cap r7 r11 r13 r15 ad)) hdep 22 159 (by decide) (by kernel_rfl)
        have eg : f.tmps.getD 155 undef = .bool false := depS (V := (VT22 st e1 n cap r7 r11 r13 r15 ad)) hdep 18 155 (by decide) (by kernel_rfl)
        clear hdep hsame hi hlate hfr hkeep
        exact .inl ⟨wanted_of 18 rfl eg (by kernel_rfl), showsO_pure hsn rfl (.bool false) (by simp only [execOp, Act.eval]; first | (go_simp; done) | (go_simp <;> rfl)) rfl⟩
      | 24, hi =>
        cases (show some _ = some o from hi)
        have e155 : (f.tmps.getD 155 undef) = .bool false := depS (V := (VT22 st e1 n cap r7 r11 r13 r15 ad)) hdep 18 155 (by decide) (by kernel_rfl)
        have e160 : (f.tmps.getD 160 undef) = .bool false := depS (V := (VT22 st e1 n cap r7 r11 r13 r15 ad)) hdep 23 160 (by decide) (by kernel_rfl)
        clear hdep hsame hi hlate hfr hkeep
        exact .inl ⟨wanted_none rfl, showsO_pure hsn rfl (.bool false) (by simp only [execOp, Act.eval]; go_simp) rfl⟩
      | 25, hi =>
        cases (show some _ = some o from hi)
        have e161 : (f.tmps.getD 161 undef) = .bool false := depS (V := (VT22 st e1 n cap r7 r11 r13 r15 ad)) hdep 24 161 (by decide) (by kernel_rfl)
        clear hdep hsame hi hlate hfr hkeep
        exact .inl ⟨wanted_none rfl, showsO_move hsn rfl _ rfl e161⟩
      | 26, hi =>
        cases (show some _ = some o from hi)
        have e13 : f.tmps.getD 13 undef = .pointer (some ⟨r13, 0, none⟩) := hlate 13 (earlyS (by kernel_rfl))
        have eg : f.tmps.getD 162 undef = .bool false := depS (V := (VT22 st e1 n cap r7 r11 r13 r15 ad)) hdep 25 162 (by decide) (by kernel_rfl)
        clear hdep hsame hi hlate hfr hkeep
        exact .inl ⟨wanted_of 25 rfl eg (by kernel_rfl), showsO_move hsn rfl _ rfl e13⟩
      | 27, hi =>
        cases (show some _ = some o from hi)
        have e163 : (f.tmps.getD 163 undef) = .pointer (some ⟨r13, 0, none⟩) := depS (V := (VT22 st e1 n cap r7 r11 r13 r15 ad)) hdep 26 163 (by decide) (by kernel_rfl)
        have eg : f.tmps.getD 162 undef = .bool false := depS (V := (VT22 st e1 n cap r7 r11 r13 r15 ad)) hdep 25 162 (by decide) (by kernel_rfl)
        clear hdep hsame hi hlate hfr hkeep
        have c := rspan_any (R_o7.out.below hb6)
        exact .inl ⟨wanted_of 25 rfl eg (by kernel_rfl), showsO_call1 hsn rfl 20 #[.pointer (some ⟨r13, 0, none⟩)] (by simp only [execOp, Act.eval]; go_simp) (c) (fun _ => rfl)⟩
      | 28, hi =>
        cases (show some _ = some o from hi)
        have e7 : f.tmps.getD 7 undef = .pointer (some ⟨r7, 0, none⟩) := hlate 7 (earlyS (by kernel_rfl))
        have eg : f.tmps.getD 162 undef = .bool false := depS (V := (VT22 st e1 n cap r7 r11 r13 r15 ad)) hdep 25 162 (by decide) (by kernel_rfl)
        clear hdep hsame hi hlate hfr hkeep
        exact .inl ⟨wanted_of 25 rfl eg (by kernel_rfl), showsO_move hsn rfl _ rfl e7⟩
      | 29, hi =>
        cases (show some _ = some o from hi)
        have e165 : (f.tmps.getD 165 undef) = .pointer (some ⟨r7, 0, none⟩) := depS (V := (VT22 st e1 n cap r7 r11 r13 r15 ad)) hdep 28 165 (by decide) (by kernel_rfl)
        have eg : f.tmps.getD 162 undef = .bool false := depS (V := (VT22 st e1 n cap r7 r11 r13 r15 ad)) hdep 25 162 (by decide) (by kernel_rfl)
        clear hdep hsame hi hlate hfr hkeep
        have c := rspan_any (R_w13.out.below hb6)
        exact .inl ⟨wanted_of 25 rfl eg (by kernel_rfl), showsO_call1 hsn rfl 20 #[.pointer (some ⟨r7, 0, none⟩)] (by simp only [execOp, Act.eval]; go_simp) (c) (fun _ => rfl)⟩
      | 30, hi =>
        cases (show some _ = some o from hi)
        have e164 : (f.tmps.getD 164 undef) = .agg #[.int .u64 (st : Int), .int .u64 (e1 : Int)] := depS (V := (VT22 st e1 n cap r7 r11 r13 r15 ad)) hdep 27 164 (by decide) (by kernel_rfl)
        have e166 : (f.tmps.getD 166 undef) = .agg #[.int .u64 (st : Int), .int .u64 (e1 : Int)] := depS (V := (VT22 st e1 n cap r7 r11 r13 r15 ad)) hdep 29 166 (by decide) (by kernel_rfl)
        have eg : f.tmps.getD 162 undef = .bool false := depS (V := (VT22 st e1 n cap r7 r11 r13 r15 ad)) hdep 25 162 (by decide) (by kernel_rfl)
        clear hdep hsame hi hlate hfr hkeep
        exact .inl ⟨wanted_of 25 rfl eg (by kernel_rfl), showsO_pure hsn rfl (.bool false) (by simp only [execOp, Act.eval]; first | (go_simp; done) | (go_simp <;> rfl)) rfl⟩
      | 31, hi =>
        cases (show some _ = some o from hi)
        have e162 : (f.tmps.getD 162 undef) = .bool false := depS (V := (VT22 st e1 n cap r7 r11 r13 r15 ad)) hdep 25 162 (by decide) (by kernel_rfl)
        have e167 : (f.tmps.getD 167 undef) = .bool false := depS (V := (VT22 st e1 n cap r7 r11 r13 r15 ad)) hdep 30 167 (by decide) (by kernel_rfl)
        clear hdep hsame hi hlate hfr hkeep
        exact .inl ⟨wanted_none rfl, showsO_pure hsn rfl (.bool false) (by simp only [execOp, Act.eval]; go_simp) rfl⟩
      | n + 32, hi => exact absurd hi (by simp)
    intro fr W16 own hsame hsn hall
    have q137 : fr.tmps.getD 137 undef = .nilIface := finO (V := (VT22 st e1 n cap r7 r11 r13 r15 ad)) hall 0 137 rfl
    have q138 : fr.tmps.getD 138 undef = .bool false := finO (V := (VT22 st e1 n cap r7 r11 r13 r15 ad)) hall 1 138 rfl
    have q139 : fr.tmps.getD 139 undef = .bool false := finO (V := (VT22 st e1 n cap r7 r11 r13 r15 ad)) hall 2 139 rfl
    have q140 : fr.tmps.getD 140 undef = .pointer (some ⟨r15, 0, none⟩) := finO (V := (VT22 st e1 n cap r7 r11 r13 r15 ad)) hall 3 140 rfl
    have q141 : fr.tmps.getD 141 undef = .bool false := finO (V := (VT22 st e1 n cap r7 r11 r13 r15 ad)) hall 4 141 rfl
    have q142 : fr.tmps.getD 142 undef = .bool false := finO (V := (VT22 st e1 n cap r7 r11 r13 r15 ad)) hall 5 142 rfl
    have q143 : fr.tmps.getD 143 undef = .bool false := finO (V := (VT22 st e1 n cap r7 r11 r13 r15 ad)) hall 6 143 rfl
    have q144 : fr.tmps.getD 144 undef = .pointer (some ⟨r7, 0, none⟩) := finO (V := (VT22 st e1 n cap r7 r11 r13 r15 ad)) hall 7 144 rfl
    have q145 : fr.tmps.getD 145 undef = .agg #[.int .u64 (st : Int), .int .u64 (e1 : Int)] := finO (V := (VT22 st e1 n cap r7 r11 r13 r15 ad)) hall 8 145 rfl
    have q146 : fr.tmps.getD 146 undef = .int .u64 (st : Int) := finO (V := (VT22 st e1 n cap r7 r11 r13 r15 ad)) hall 9 146 rfl
    have q147 : fr.tmps.getD 147 undef = .int .u64 (st : Int) := finO (V := (VT22 st e1 n cap r7 r11 r13 r15 ad)) hall 10 147 rfl
    have q148 : fr.tmps.getD 148 undef = .slice ad n cap := finO (V := (VT22 st e1 n cap r7 r11 r13 r15 ad)) hall 11 148 rfl
    have q149 : fr.tmps.getD 149 undef = .int .i64 (n : Int) := finO (V := (VT22 st e1 n cap r7 r11 r13 r15 ad)) hall 12 149 rfl
    have q150 : fr.tmps.getD 150 undef = .int .u64 (n : Int) := finO (V := (VT22 st e1 n cap r7 r11 r13 r15 ad)) hall 13 150 rfl
    have q151 : fr.tmps.getD 151 undef = .int .u64 (e1 : Int) := finO (V := (VT22 st e1 n cap r7 r11 r13 r15 ad)) hall 14 151 rfl
    have q152 : fr.tmps.getD 152 undef = .agg #[.int .u64 (st : Int), .int .u64 (e1 : Int)] := finO (V := (VT22 st e1 n cap r7 r11 r13 r15 ad)) hall 15 152 rfl
    have q153 : fr.tmps.getD 153 undef = .bool false := finO (V := (VT22 st e1 n cap r7 r11 r13 r15 ad)) hall 16 153 rfl
    have q154 : fr.tmps.getD 154 undef = .bool false := finO (V := (VT22 st e1 n cap r7 r11 r13 r15 ad)) hall 17 154 rfl
    have q155 : fr.tmps.getD 155 undef = .bool false := finO (V := (VT22 st e1 n cap r7 r11 r13 r15 ad)) hall 18 155 rfl
    have q156 : fr.tmps.getD 156 undef = .pointer (some ⟨r11, 0, none⟩) := finO (V := (VT22 st e1 n cap r7 r11 r13 r15 ad)) hall 19 156 rfl
    have q157 : fr.tmps.getD 157 undef = .agg #[.int .u64 (st : Int), .int .u64 (e1 : Int)] := finO (V := (VT22 st e1 n cap r7 r11 r13 r15 ad)) hall 20 157 rfl
    have q158 : fr.tmps.getD 158 undef = .pointer (some ⟨r7, 0, none⟩) := finO (V := (VT22 st e1 n cap r7 r11 r13 r15 ad)) hall 21 158 rfl
    have q159 : fr.tmps.getD 159 undef = .agg #[.int .u64 (st : Int), .int .u64 (e1 : Int)] := finO (V := (VT22 st e1 n cap r7 r11 r13 r15 ad)) hall 22 159 rfl
    have q160 : fr.tmps.getD 160 undef = .bool false := finO (V := (VT22 st e1 n cap r7 r11 r13 r15 ad)) hall 23 160 rfl
    have q161 : fr.tmps.getD 161 undef = .bool false := finO (V := (VT22 st e1 n cap r7 r11 r13 r15 ad)) hall 24 161 rfl
    have q162 : fr.tmps.getD 162 undef = .bool false := finO (V := (VT22 st e1 n cap r7 r11 r13 r15 ad)) hall 25 162 rfl
    have q163 : fr.tmps.getD 163 undef = .pointer (some ⟨r13, 0, none⟩) := finO (V := (VT22 st e1 n cap r7 r11 r13 r15 ad)) hall 26 163 rfl
    have q164 : fr.tmps.getD 164 undef = .agg #[.int .u64 (st : Int), .int .u64 (e1 : Int)] := finO (V := (VT22 st e1 n cap r7 r11 r13 r15 ad)) hall 27 164 rfl
    have q165 : fr.tmps.getD 165 undef = .pointer (some ⟨r7, 0, none⟩) := finO (V := (VT22 st e1 n cap r7 r11 r13 r15 ad)) hall 28 165 rfl
    have q166 : fr.tmps.getD 166 undef = .agg #[.int .u64 (st : Int), .int .u64 (e1 : Int)] := finO (V := (VT22 st e1 n cap r7 r11 r13 r15 ad)) hall 29 166 rfl
    have q167 : fr.tmps.getD 167 undef = .bool false := finO (V := (VT22 st e1 n cap r7 r11 r13 r15 ad)) hall 30 167 rfl
    have q168 : fr.tmps.getD 168 undef = .bool false := finO (V := (VT22 st e1 n cap r7 r11 r13 r15 ad)) hall 31 168 rfl
    obtain rfl := frame_eq hsame [(137, .nilIface), (138, .bool false), (139, .bool false), (140, .pointer (some ⟨r15, 0, none⟩)), (141, .bool false), (142, .bool false), (143, .bool false), (144, .pointer (some ⟨r7, 0, none⟩)), (145, .agg #[.int .u64 (st : Int), .int .u64 (e1 : Int)]), (146, .int .u64 (st : Int)), (147, .int .u64 (st : Int)), (148, .slice ad n cap), (149, .int .i64 (n : Int)), (150, .int .u64 (n : Int)), (151, .int .u64 (e1 : Int)), (152, .agg #[.int .u64 (st : Int), .int .u64 (e1 : Int)]), (153, .bool false), (154, .bool false), (155, .bool false), (156, .pointer (some ⟨r11, 0, none⟩)), (157, .agg #[.int .u64 (st : Int), .int .u64 (e1 : Int)]), (158, .pointer (some ⟨r7, 0, none⟩)), (159, .agg #[.int .u64 (st : Int), .int .u64 (e1 : Int)]), (160, .bool false), (161, .bool false), (162, .bool false), (163, .pointer (some ⟨r13, 0, none⟩)), (164, .agg #[.int .u64 (st : Int), .int .u64 (e1 : Int)]), (165, .pointer (some ⟨r7, 0, none⟩)), (166, .agg #[.int .u64 (st : Int), .int .u64 (e1 : Int)]), (167, .bool false), (168, .bool false)] (by kernel_rfl) ⟨q137, q138, q139, q140, q141, q142, q143, q144, q145, q146, q147, q148, q149, q150, q151, q152, q153, q154, q155, q156, q157, q158, q159, q160, q161, q162, q163, q164, q165, q166, q167, q168, trivial⟩
    clear hall hsame q137 q138 q139 q140 q141 q142 q143 q144 q145 q146 q147 q148 q149 q150 q151 q152 q153 q154 q155 q156 q157 q158 q159 q160 q161 q162 q163 q164 q165 q166 q167 q168
    simp only [List.foldl, List.setIfInBounds_toArray, List.set_cons_succ, List.set_cons_zero]
    have hb := hsn.below (B := W15.heap.size) (fun _ _ => rfl) (Nat.le_refl _)
    clear hsn
    have KW16 := Bx.mk (KW15.out.trans (hb.mono KW15.out.size)); have HE17 := Bx.mk (HE16.out.below hb); have HH17 := Bx.mk (HH16.out.below hb); have R_w14 := Bx.mk (R_w13.out.below hb); have R_y12 := Bx.mk (R_y11.out.below hb); have R_z11 := Bx.mk (R_z10.out.below hb); have R_l10 := Bx.mk (R_l9.out.below hb); have R_o8 := Bx.mk (R_o7.out.below hb); have O3 := Bx.mk (own_keep O2.out (Keep.of_below hb (fun _ => False)) (fun _ _ h => h)); have R_d1 := Bx.mk (R_d0.out.below hb)
    clear hb KW15 HE16 HH16 R_w13 R_y11 R_z10 R_l9 R_o7 O2 R_d0
    go_upto_region 24 with (fail)
    refine wp_region_seq8 (n := 252) VT24mk (fun _ => none) (VT24 k c14 r11 r13 r15 a14 hs) (by kernel_rfl) rfl (fun _ _ => rfl) (fun j i hj _ => by cases hj) ?_ ?_ ?_
    · exact fun oi oj v own w own' w' hij h r => VT24_mono k c14 r11 r13 r15 a14 hs oi oj v own w own' w' (by omega)  h r
    · intro oi o hi f u own hsame hsn hfr hlate hkeep8 hdep
      have hkeep := hkeep8 _ (Nat.le_refl _)
      have hb6 := hsn.below (B := W16.heap.size) (fun _ _ => rfl) (Nat.le_refl _)
      match oi, hi with
      | 0, hi =>
        cases (show some _ = some o from hi)
        have e11 : f.tmps.getD 11 undef = .pointer (some ⟨r11, 0, none⟩) := hlate 11 (earlyS (by kernel_rfl))
        clear hdep hsame hi hlate hfr hkeep
        exact .inl ⟨wanted_none rfl, showsO_move hsn rfl _ rfl e11⟩
      | 1, hi =>
        cases (show some _ = some o from hi)
        have e169 : (f.tmps.getD 169 undef) = .pointer (some ⟨r11, 0, none⟩) := depS (V := (VT24 k c14 r11 r13 r15 a14 hs)) hdep 0 169 (by decide) (by kernel_rfl)
        clear hdep hsame hi hlate hfr hkeep
        have c := rhss_any _ u _ _ _ _ _ k HK.out hs HHS.out (R_l10.out.below hb6) (by have := KL.out; omega) 0 (Nat.zero_le _)
        exact .inl ⟨wanted_none rfl, showsO_call (R := fun v w' => w'.ownsRow 0 28 32 v k (hcells hs) ∧ ∀ k, v.ownBlock = some k → u.heap.size ≤ k) hsn rfl 13 #[.pointer (some ⟨r11, 0, none⟩)] (by simp only [execOp, Act.eval]; go_simp) c (fun v w' h _ => ⟨h.1, fun k hk => hsn.top k (h.2 k hk)⟩)⟩
      | 2, hi =>
        cases (show some _ = some o from hi)
        have e14 : f.tmps.getD 14 undef = .slice a14 k c14 := hlate 14 (earlyS (by kernel_rfl))
        clear hdep hsame hi hlate hfr hkeep
        exact .inl ⟨wanted_none rfl, showsO_move hsn rfl _ rfl e14⟩
      | 3, hi =>
        cases (show some _ = some o from hi)
        have e170 : RowN own u (f.tmps.getD 170 undef) 0 28 32 k (hcells hs) := depS (V := (VT24 k c14 r11 r13 r15 a14 hs)) hdep 1 170 (by decide) (by kernel_rfl)
        have e171 : (f.tmps.getD 171 undef) = .slice a14 k c14 := depS (V := (VT24 k c14 r11 r13 r15 a14 hs)) hdep 2 171 (by decide) (by kernel_rfl)
        clear hdep hsame hi hlate hfr hkeep
        obtain ⟨hr1, _⟩ := e170
        obtain ⟨ax, cx, e170, _, _, _⟩ := own_shape hr1
        rw [e170] at hr1
        have c := same_any u _ _ _ hs _ _ _ hs (hss_own hr1 S32.out KH.out) ((hss_own O3.out S32.out KH.out).below hb6)
        rw [beq_self_eq_true] at c
        exact .inl ⟨wanted_none rfl, showsO_call1 hsn rfl 21 #[.slice ax k cx, .slice a14 k c14] (by simp only [execOp, Act.eval]; go_simp) (c) (fun _ => rfl)⟩
      | 4, hi =>
        cases (show some _ = some o from hi)
        have e172 : (f.tmps.getD 172 undef) = .bool true := depS (V := (VT24 k c14 r11 r13 r15 a14 hs)) hdep 3 172 (by decide) (by kernel_rfl)
        clear hdep hsame hi hlate hfr hkeep
        exact .inl ⟨wanted_none rfl, showsO_pure hsn rfl (.bool false) (by simp only [execOp, Act.eval]; go_simp) rfl⟩
      | 5, hi =>
        cases (show some _ = some o from hi)
        have e173 : (f.tmps.getD 173 undef) = .bool false := depS (V := (VT24 k c14 r11 r13 r15 a14 hs)) hdep 4 173 (by decide) (by kernel_rfl)
        clear hdep hsame hi hlate hfr hkeep
        exact .inl ⟨wanted_none rfl, showsO_move hsn rfl _ rfl e173⟩
      | 6, hi =>
        cases (show some _ = some o from hi)
        have e13 : f.tmps.getD 13 undef = .pointer (some ⟨r13, 0, none⟩) := hlate 13 (earlyS (by kernel_rfl))
        have eg : f.tmps.getD 174 undef = .bool false := depS (V := (VT24 k c14 r11 r13 r15 a14 hs)) hdep 5 174 (by decide) (by kernel_rfl)
        clear hdep hsame hi hlate hfr hkeep
        exact .inl ⟨wanted_of 5 rfl eg (by kernel_rfl), showsO_move hsn rfl _ rfl e13⟩
      | 7, hi =>
        cases (show some _ = some o from hi)
        have e175 : (f.tmps.getD 175 undef) = .pointer (some ⟨r13, 0, none⟩) := depS (V := (VT24 k c14 r11 r13 r15 a14 hs)) hdep 6 175 (by decide) (by kernel_rfl)
        have eg : f.tmps.getD 174 undef = .bool false := depS (V := (VT24 k c14 r11 r13 r15 a14 hs)) hdep 5 174 (by decide) (by kernel_rfl)
        clear hdep hsame hi hlate hfr hkeep
        have c := rhss_any _ u _ _ _ _ _ k HK.out hs HHS.out (R_o8.out.below hb6) (by have := KL.out; omega) 0 (Nat.zero_le _)
        exact .inl ⟨wanted_of 5 rfl eg (by kernel_rfl), showsO_call (R := fun v w' => w'.ownsRow 0 28 32 v k (hcells hs) ∧ ∀ k, v.ownBlock = some k → u.heap.size ≤ k) hsn rfl 13 #[.pointer (some ⟨r13, 0, none⟩)] (by simp only [execOp, Act.eval]; go_simp) c (fun v w' h _ => ⟨h.1, fun k hk => hsn.top k (h.2 k hk)⟩)⟩
      | 8, hi =>
        cases (show some _ = some o from hi)
        have e14 : f.tmps.getD 14 undef = .slice a14 k c14 := hlate 14 (earlyS (by kernel_rfl))
        have eg : f.tmps.getD 174 undef = .bool false := depS (V := (VT24 k c14 r11 r13 r15 a14 hs)) hdep 5 174 (by decide) (by kernel_rfl)
        clear hdep hsame hi hlate hfr hkeep
        exact .inl ⟨wanted_of 5 rfl eg (by kernel_rfl), showsO_move hsn rfl _ rfl e14⟩
      | 9, hi =>
        cases (show some _ = some o from hi)
        have e176 : RowN own u (f.tmps.getD 176 undef) 0 28 32 k (hcells hs) := depS (V := (VT24 k c14 r11 r13 r15 a14 hs)) hdep 7 176 (by decide) (by kernel_rfl)
        have e177 : (f.tmps.getD 177 undef) = .slice a14 k c14 := depS (V := (VT24 k c14 r11 r13 r15 a14 hs)) hdep 8 177 (by decide) (by kernel_rfl)
        have eg : f.tmps.getD 174 undef = .bool false := depS (V := (VT24 k c14 r11 r13 r15 a14 hs)) hdep 5 174 (by decide) (by kernel_rfl)
        clear hdep hsame hi hlate hfr hkeep
        obtain ⟨hr1, _⟩ := e176
        obtain ⟨ax, cx, e176, _, _, _⟩ := own_shape hr1
        rw [e176] at hr1
        have c := same_any u _ _ _ hs _ _ _ hs (hss_own hr1 S32.out KH.out) ((hss_own O3.out S32.out KH.out).below hb6)
        rw [beq_self_eq_true] at c
        exact .inl ⟨wanted_of 5 rfl eg (by kernel_rfl), showsO_call1 hsn rfl 21 #[.slice ax k cx, .slice a14 k c14] (by simp only [execOp, Act.eval]; go_simp) (c) (fun _ => rfl)⟩
      | 10, hi =>
        cases (show some _ = some o from hi)
        have e178 : (f.tmps.getD 178 undef) = .bool true := depS (V := (VT24 k c14 r11 r13 r15 a14 hs)) hdep 9 178 (by decide) (by kernel_rfl)
        have eg : f.tmps.getD 174 undef = .bool false := depS (V := (VT24 k c14 r11 r13 r15 a14 hs)) hdep 5 174 (by decide) (by kernel_rfl)
        clear hdep hsame hi hlate hfr hkeep
        exact .inl ⟨wanted_of 5 rfl eg (by kernel_rfl), showsO_pure hsn rfl (.bool false) (by simp only [execOp, Act.eval]; go_simp) rfl⟩
      | 11, hi =>
        cases (show some _ = some o from hi)
        have e174 : (f.tmps.getD 174 undef) = .bool false := depS (V := (VT24 k c14 r11 r13 r15 a14 hs)) hdep 5 174 (by decide) (by kernel_rfl)
        have e179 : (f.tmps.getD 179 undef) = .bool false := depS (V := (VT24 k c14 r11 r13 r15 a14 hs)) hdep 10 179 (by decide) (by kernel_rfl)
        clear hdep hsame hi hlate hfr hkeep
        exact .inl ⟨wanted_none rfl, showsO_pure hsn rfl (.bool false) (by simp only [execOp, Act.eval]; go_simp) rfl⟩
      | 12, hi =>
        cases (show some _ = some o from hi)
        have e180 : (f.tmps.getD 180 undef) = .bool false := depS (V := (VT24 k c14 r11 r13 r15 a14 hs)) hdep 11 180 (by decide) (by kernel_rfl)
        clear hdep hsame hi hlate hfr hkeep
        exact .inl ⟨wanted_none rfl, showsO_move hsn rfl _ rfl e180⟩
      | 13, hi =>
        cases (show some _ = some o from hi)
        have e15 : f.tmps.getD 15 undef = .pointer (some ⟨r15, 0, none⟩) := hlate 15 (earlyS (by kernel_rfl))
        have eg : f.tmps.getD 181 undef = .bool false := depS (V := (VT24 k c14 r11 r13 r15 a14 hs)) hdep 12 181 (by decide) (by kernel_rfl)
        clear hdep hsame hi hlate hfr hkeep
        exact .inl ⟨wanted_of 12 rfl eg (by kernel_rfl), showsO_move hsn rfl _ rfl e15⟩
      | 14, hi =>
        cases (show some _ = some o from hi)
        have e182 : (f.tmps.getD 182 undef) = .pointer (some ⟨r15, 0, none⟩) := depS (V := (VT24 k c14 r11 r13 r15 a14 hs)) hdep 13 182 (by decide) (by kernel_rfl)
        have eg : f.tmps.getD 181 undef = .bool false := depS (V := (VT24 k c14 r11 r13 r15 a14 hs)) hdep 12 181 (by decide) (by kernel_rfl)
        clear hdep hsame hi hlate hfr hkeep
        have c := rhss_any _ u _ _ _ _ _ k HK.out hs HHS.out (R_d1.out.below hb6) (by have := KL.out; omega) 0 (Nat.zero_le _)
        exact .inl ⟨wanted_of 12 rfl eg (by kernel_rfl), showsO_call (R := fun v w' => w'.ownsRow 0 28 32 v k (hcells hs) ∧ ∀ k, v.ownBlock = some k → u.heap.size ≤ k) hsn rfl 13 #[.pointer (some ⟨r15, 0, none⟩)] (by simp only [execOp, Act.eval]; go_simp) c (fun v w' h _ => ⟨h.1, fun k hk => hsn.top k (h.2 k hk)⟩)⟩
      | 15, hi =>
        cases (show some _ = some o from hi)
        have e14 : f.tmps.getD 14 undef = .slice a14 k c14 := hlate 14 (earlyS (by kernel_rfl))
        have eg : f.tmps.getD 181 undef = .bool false := depS (V := (VT24 k c14 r11 r13 r15 a14 hs)) hdep 12 181 (by decide) (by kernel_rfl)
        clear hdep hsame hi hlate hfr hkeep
        exact .inl ⟨wanted_of 12 rfl eg (by kernel_rfl), showsO_move hsn rfl _ rfl e14⟩
      | 16, hi =>
        cases (show some _ = some o from hi)
        have e183 : RowN own u (f.tmps.getD 183 undef) 0 28 32 k (hcells hs) := depS (V := (VT24 k c14 r11 r13 r15 a14 hs)) hdep 14 183 (by decide) (by kernel_rfl)
        have e184 : (f.tmps.getD 184 undef) = .slice a14 k c14 := depS (V := (VT24 k c14 r11 r13 r15 a14 hs)) hdep 15 184 (by decide) (by kernel_rfl)
        have eg : f.tmps.getD 181 undef = .bool false := depS (V := (VT24 k c14 r11 r13 r15 a14 hs)) hdep 12 181 (by decide) (by kernel_rfl)
        clear hdep hsame hi hlate hfr hkeep
        obtain ⟨hr1, _⟩ := e183
        obtain ⟨ax, cx, e183, _, _, _⟩ := own_shape hr1
        rw [e183] at hr1
        have c := same_any u _ _ _ hs _ _ _ hs (hss_own hr1 S32.out KH.out) ((hss_own O3.out S32.out KH.out).below hb6)
        rw [beq_self_eq_true] at c
        exact .inl ⟨wanted_of 12 rfl eg (by kernel_rfl), showsO_call1 hsn rfl 21 #[.slice ax k cx, .slice a14 k c14] (by simp only [execOp, Act.eval]; go_simp) (c) (fun _ => rfl)⟩
      | 17, hi =>
        cases (show some _ = some o from hi)
        have e185 : (f.tmps.getD 185 undef) = .bool true := depS (V := (VT24 k c14 r11 r13 r15 a14 hs)) hdep 16 185 (by decide) (by kernel_rfl)
        have eg : f.tmps.getD 181 undef = .bool false := depS (V := (VT24 k c14 r11 r13 r15 a14 hs)) hdep 12 181 (by decide) (by kernel_rfl)
        clear hdep hsame hi hlate hfr hkeep
        exact .inl ⟨wanted_of 12 rfl eg (by kernel_rfl), showsO_pure hsn rfl (.bool false) (by simp only [execOp, Act.eval]; go_simp) rfl⟩
      | 18, hi =>
        cases (show some _ = some o from hi)
        have e181 : (f.tmps.getD 181 undef) = .bool false := depS (V := (VT24 k c14 r11 r13 r15 a14 hs)) hdep 12 181 (by decide) (by kernel_rfl)
        have e186 : (f.tmps.getD 186 undef) = .bool false := depS (V := (VT24 k c14 r11 r13 r15 a14 hs)) hdep 17 186 (by decide) (by kernel_rfl)
        clear hdep hsame hi hlate hfr hkeep
        exact .inl ⟨wanted_none rfl, showsO_pure hsn rfl (.bool false) (by simp only [execOp, Act.eval]; go_simp) rfl⟩
      | n + 19, hi => exact absurd hi (by simp)
    intro fr W17 own hsame hsn hall
    have q169 : fr.tmps.getD 169 undef = .pointer (some ⟨r11, 0, none⟩) := finO (V := (VT24 k c14 r11 r13 r15 a14 hs)) hall 0 169 rfl
    have m170 := finO (V := (VT24 k c14 r11 r13 r15 a14 hs)) hall 1 170 rfl
    obtain ⟨r170, q170⟩ : ∃ r, fr.tmps.getD 170 undef = r := ⟨_, rfl⟩
    rw [q170] at m170
    have q171 : fr.tmps.getD 171 undef = .slice a14 k c14 := finO (V := (VT24 k c14 r11 r13 r15 a14 hs)) hall 2 171 rfl
    have q172 : fr.tmps.getD 172 undef = .bool true := finO (V := (VT24 k c14 r11 r13 r15 a14 hs)) hall 3 172 rfl
    have q173 : fr.tmps.getD 173 undef = .bool false := finO (V := (VT24 k c14 r11 r13 r15 a14 hs)) hall 4 173 rfl
    have q174 : fr.tmps.getD 174 undef = .bool false := finO (V := (VT24 k c14 r11 r13 r15 a14 hs)) hall 5 174 rfl
    have q175 : fr.tmps.getD 175 undef = .pointer (some ⟨r13, 0, none⟩) := finO (V := (VT24 k c14 r11 r13 r15 a14 hs)) hall 6 175 rfl
    have m176 := finO (V := (VT24 k c14 r11 r13 r15 a14 hs)) hall 7 176 rfl
    obtain ⟨r176, q176⟩ : ∃ r, fr.tmps.getD 176 undef = r := ⟨_, rfl⟩
    rw [q176] at m176
    have q177 : fr.tmps.getD 177 undef = .slice a14 k c14 := finO (V := (VT24 k c14 r11 r13 r15 a14 hs)) hall 8 177 rfl
    have q178 : fr.tmps.getD 178 undef = .bool true := finO (V := (VT24 k c14 r11 r13 r15 a14 hs)) hall 9 178 rfl
    have q179 : fr.tmps.getD 179 undef = .bool false := finO (V := (VT24 k c14 r11 r13 r15 a14 hs)) hall 10 179 rfl
    have q180 : fr.tmps.getD 180 undef = .bool false := finO (V := (VT24 k c14 r11 r13 r15 a14 hs)) hall 11 180 rfl
    have q181 : fr.tmps.getD 181 undef = .bool false := finO (V := (VT24 k c14 r11 r13 r15 a14 hs)) hall 12 181 rfl
    have q182 : fr.tmps.getD 182 undef = .pointer (some ⟨r15, 0, none⟩) := finO (V := (VT24 k c14 r11 r13 r15 a14 hs)) hall 13 182 rfl
    have m183 := finO (V := (VT24 k c14 r11 r13 r15 a14 hs)) hall 14 183 rfl
    obtain ⟨r183, q183⟩ : ∃ r, fr.tmps.getD 183 undef = r := ⟨_, rfl⟩
    rw [q183] at m183
    have q184 : fr.tmps.getD 184 undef = .slice a14 k c14 := finO (V := (VT24 k c14 r11 r13 r15 a14 hs)) hall 15 184 rfl
    have q185 : fr.tmps.getD 185 undef = .bool true := finO (V := (VT24 k c14 r11 r13 r15 a14 hs)) hall 16 185 rfl
    have q186 : fr.tmps.getD 186 undef = .bool false := finO (V := (VT24 k c14 r11 r13 r15 a14 hs)) hall 17 186 rfl
    have q187 : fr.tmps.getD 187 undef = .bool false := finO (V := (VT24 k c14 r11 r13 r15 a14 hs)) hall 18 187 rfl
    obtain rfl := frame_eq hsame [(169, .pointer (some ⟨r11, 0, none⟩)), (170, r170), (171, .slice a14 k c14), (172, .bool true), (173, .bool false), (174, .bool false), (175, .pointer (some ⟨r13, 0, none⟩)), (176, r176), (177, .slice a14 k c14), (178, .bool true), (179, .bool false), (180, .bool false), (181, .bool false), (182, .pointer (some ⟨r15, 0, none⟩)), (183, r183), (184, .slice a14 k c14), (185, .bool true), (186, .bool false), (187, .bool false)] (by kernel_rfl) ⟨q169, q170, q171, q172, q173, q174, q175, q176, q177, q178, q179, q180, q181, q182, q183, q184, q185, q186, q187, trivial⟩
    clear hall hsame q169 q170 q171 q172 q173 q174 q175 q176 q177 q178 q179 q180 q181 q182 q183 q184 q185 q186 q187
    simp only [List.foldl, List.setIfInBounds_toArray, List.set_cons_succ, List.set_cons_zero]
    have hb := hsn.below (B := W16.heap.size) (fun _ _ => rfl) (Nat.le_refl _)
    clear hsn m170 m176 m183
    have KW17 := Bx.mk (KW16.out.trans (hb.mono KW16.out.size)); have HE18 := Bx.mk (HE17.out.below hb); have HH18 := Bx.mk (HH17.out.below hb); have R_w15 := Bx.mk (R_w14.out.below hb); have R_y13 := Bx.mk (R_y12.out.below hb); have R_z12 := Bx.mk (R_z11.out.below hb); have R_l11 := Bx.mk (R_l10.out.below hb); have R_o9 := Bx.mk (R_o8.out.below hb); have O4 := Bx.mk (own_keep O3.out (Keep.of_below hb (fun _ => False)) (fun _ _ h => h)); have R_d2 := Bx.mk (R_d1.out.below hb)
    clear hb KW16 HE17 HH17 R_w14 R_y12 R_z11 R_l10 R_o8 O3 R_d1
    go_upto_region 26 with (fail)
    obtain ⟨Z, hZ⟩ : ∃ Z, Z = W17.heap.size := ⟨_, rfl⟩
    have HZ := Bx.mk hZ; clear hZ
    refine wp_region_seq8 (n := 252) VT26mk (fun _ => none) (VT26 Z st fi fk e1 ii kk n cap ad fL) (by kernel_rfl) rfl (fun _ _ => rfl) (fun j i hj _ => by cases hj) ?_ ?_ ?_
    · exact fun oi oj v own w own' w' hij h r => VT26_mono Z st fi fk e1 ii kk n cap ad fL oi oj v own w own' w' (by omega)  h r
    · intro oi o hi f u own hsame hsn hfr hlate hkeep8 hdep
      have hkeep := hkeep8 _ (Nat.le_refl _)
      have hb6 := hsn.below (B := W17.heap.size) (fun _ _ => rfl) (Nat.le_refl _)
      match oi, hi with
      | 0, hi =>
        cases (show some _ = some o from hi)
        have e4 : f.tmps.getD 4 undef = .int .u64 (st : Int) := hlate 4 (earlyS (by kernel_rfl))
        clear hdep hsame hi hlate hfr hkeep
        exact .inl ⟨wanted_none rfl, showsO_move hsn rfl _ rfl e4⟩
      | 1, hi =>
        cases (show some _ = some o from hi)
        have e5 : f.tmps.getD 5 undef = .int .i64 (ii : Int) := hlate 5 (earlyS (by kernel_rfl))
        clear hdep hsame hi hlate hfr hkeep
        exact .inl ⟨wanted_none rfl, showsO_move hsn rfl _ rfl e5⟩
      | 2, hi =>
        cases (show some _ = some o from hi)
        have e189 : (f.tmps.getD 189 undef) = .int .i64 (ii : Int) := depS (V := (VT26 Z st fi fk e1 ii kk n cap ad fL)) hdep 1 189 (by decide) (by kernel_rfl)
        clear hdep hsame hi hlate hfr hkeep
        have k1 := IK.out; have k2 := KN.out; have k3 := NL.out
        have d1 : IntKind.u64.wrap (ii : Int) = (ii : Int) := by simp [IntKind.wrap, IntKind.bits, IntKind.signed]; omega
        exact .inl ⟨wanted_none rfl, showsO_pure hsn rfl (.int .u64 (ii : Int)) (by simp only [execOp, Act.eval]; go_simp) rfl⟩
      | 3, hi =>
        cases (show some _ = some o from hi)
        have e188 : (f.tmps.getD 188 undef) = .int .u64 (st : Int) := depS (V := (VT26 Z st fi fk e1 ii kk n cap ad fL)) hdep 0 188 (by decide) (by kernel_rfl)
        have e190 : (f.tmps.getD 190 undef) = .int .u64 (ii : Int) := depS (V := (VT26 Z st fi fk e1 ii kk n cap ad fL)) hdep 2 190 (by decide) (by kernel_rfl)
        clear hdep hsame hi hlate hfr hkeep
        have d1 : IntKind.u64.wrap ((st : Int) + (ii : Int)) = (fi : Int) := by have k1 := IK.out; have k2 := KN.out; have k3 := SL.out; have k4 := FI.out; have k5 := FK.out; simp [IntKind.wrap, IntKind.bits, IntKind.signed]; omega
        exact .inl ⟨wanted_none rfl, showsO_pure hsn rfl (.int .u64 (fi : Int)) (by simp only [execOp, Act.eval]; go_simp) rfl⟩
      | 4, hi =>
        cases (show some _ = some o from hi)
        have e3 : f.tmps.getD 3 undef = .slice ad n cap := hlate 3 (earlyS (by kernel_rfl))
        clear hdep hsame hi hlate hfr hkeep
        exact .inl ⟨wanted_none rfl, showsO_move hsn rfl _ rfl e3⟩
      | 5, hi =>
        cases (show some _ = some o from hi)
        have e5 : f.tmps.getD 5 undef = .int .i64 (ii : Int) := hlate 5 (earlyS (by kernel_rfl))
        clear hdep hsame hi hlate hfr hkeep
        exact .inl ⟨wanted_none rfl, showsO_move hsn rfl _ rfl e5⟩
      | 6, hi =>
        cases (show some _ = some o from hi)
        have e6 : f.tmps.getD 6 undef = .int .i64 (kk : Int) := hlate 6 (earlyS (by kernel_rfl))
        clear hdep hsame hi hlate hfr hkeep
        exact .inl ⟨wanted_none rfl, showsO_move hsn rfl _ rfl e6⟩
      | 7, hi =>
        cases (show some _ = some o from hi)
        have e192 : (f.tmps.getD 192 undef) = .slice ad n cap := depS (V := (VT26 Z st fi fk e1 ii kk n cap ad fL)) hdep 4 192 (by decide) (by kernel_rfl)
        have e193 : (f.tmps.getD 193 undef) = .int .i64 (ii : Int) := depS (V := (VT26 Z st fi fk e1 ii kk n cap ad fL)) hdep 5 193 (by decide) (by kernel_rfl)
        have e194 : (f.tmps.getD 194 undef) = .int .i64 (kk : Int) := depS (V := (VT26 Z st fi fk e1 ii kk n cap ad fL)) hdep 6 194 (by decide) (by kernel_rfl)
        clear hdep hsame hi hlate hfr hkeep
        have hn0 := HNIL.out
        have hc0 := HC.out.1
        have k1 := IK.out
        have k2 := KN.out
        have h1 : (0 : Int) ≤ (ii : Int) := by omega
        have h2 : (ii : Int) ≤ (kk : Int) := by omega
        have h3 : (kk : Int) ≤ (cap : Int) := by omega
        have h3b : (kk : Int) ≤ (n : Int) := by omega
        have h3n : (ii : Int) ≤ (n : Int) := by omega
        exact .inl ⟨wanted_none rfl, showsO_pure hsn rfl (.slice (cutA ad cap ii) (kk - ii) (cap - ii)) (by rcases ad with _ | ad; (obtain rfl : cap = 0 := hn0 rfl; obtain rfl : n = 0 := (by omega); obtain rfl : kk = 0 := (by omega); obtain rfl : ii = 0 := (by omega); simp only [execOp, Act.eval]; unfold cutA; go_simp); (by_cases hce : cap = ii; (have h5 : cap - ii = 0 := (by omega); unfold cutA; rw [if_pos hce]; subst hce; simp only [execOp, Act.eval]; go_simp); (have h5 : ¬ (cap - ii = 0) := (by omega); unfold cutA; rw [if_neg hce]; simp only [execOp, Act.eval]; go_simp))) rfl⟩
      | 8, hi =>
        cases (show some _ = some o from hi)
        have e191 : (f.tmps.getD 191 undef) = .int .u64 (fi : Int) := depS (V := (VT26 Z st fi fk e1 ii kk n cap ad fL)) hdep 3 191 (by decide) (by kernel_rfl)
        have e195 : (f.tmps.getD 195 undef) = .slice (cutA ad cap ii) (kk - ii) (cap - ii) := depS (V := (VT26 Z st fi fk e1 ii kk n cap ad fL)) hdep 7 195 (by decide) (by kernel_rfl)
        clear hdep hsame hi hlate hfr hkeep
        have c := appended_any u fi _ _ _ _ ((Hss.cutC HH18.out (i := ii) (k := kk) (by have := IK.out; have := KN.out; omega) (by have := KN.out; omega)).below hb6) fL (fun t h => by rw [FC.out ii kk (by have := IK.out; have := KN.out; omega) (by rw [← HL.out]; have := KN.out; omega) t h, FI.out]) (HE18.out.below hb6).tab (by rw [List.length_drop, List.length_take, ← HL.out]; have := SL.out; have := IK.out; have := KN.out; have := FI.out; omega) (by rw [List.length_drop, List.length_take, ← HL.out]; omega)
        rw [show fi + (kk - ii) = fk by have := IK.out; have := KN.out; have := FI.out; have := FK.out; have := E1.out; omega] at c
        exact .inl ⟨wanted_none rfl, showsO_call (R := fun v w' => ∃ r s, v = .pointer (some ⟨r, 0, none⟩) ∧ RaP u.heap.size w' r fi fk (rowC fL fi fk) s) hsn rfl 16 #[.int .u64 (fi : Int), .slice (cutA ad cap ii) (kk - ii) (cap - ii)] (by simp only [execOp, Act.eval]; go_simp) (c.mono fun e w' ⟨r, h1, ⟨s, h2⟩, h3⟩ => ⟨_, h1, ⟨r, s, rfl, h2⟩, h3⟩) (fun v w' ⟨r, s, h1, h2⟩ _ => ⟨r, s, h1, h2.mono (by rw [HZ.out]; exact hb6.size), fun k hk => hsn.top k (h2.ge k hk)⟩)⟩
      | 9, hi =>
        cases (show some _ = some o from hi)
        have e196 : MadeR own u (f.tmps.getD 196 undef) fi fk Z (rowC fL fi fk) := depS (V := (VT26 Z st fi fk e1 ii kk n cap ad fL)) hdep 8 196 (by decide) (by kernel_rfl)
        clear hdep hsame hi hlate hfr hkeep
        exact .inl ⟨wanted_none rfl, showsO_assign hsn rfl _ rfl e196⟩
      | n + 10, hi => exact absurd hi (by simp)
    intro fr W18 own hsame hsn hall
    have q188 : fr.tmps.getD 188 undef = .int .u64 (st : Int) := finO (V := (VT26 Z st fi fk e1 ii kk n cap ad fL)) hall 0 188 rfl
    have q189 : fr.tmps.getD 189 undef = .int .i64 (ii : Int) := finO (V := (VT26 Z st fi fk e1 ii kk n cap ad fL)) hall 1 189 rfl
    have q190 : fr.tmps.getD 190 undef = .int .u64 (ii : Int) := finO (V := (VT26 Z st fi fk e1 ii kk n cap ad fL)) hall 2 190 rfl
    have q191 : fr.tmps.getD 191 undef = .int .u64 (fi : Int) := finO (V := (VT26 Z st fi fk e1 ii kk n cap ad fL)) hall 3 191 rfl
    have q192 : fr.tmps.getD 192 undef = .slice ad n cap := finO (V := (VT26 Z st fi fk e1 ii kk n cap ad fL)) hall 4 192 rfl
    have q193 : fr.tmps.getD 193 undef = .int .i64 (ii : Int) := finO (V := (VT26 Z st fi fk e1 ii kk n cap ad fL)) hall 5 193 rfl
    have q194 : fr.tmps.getD 194 undef = .int .i64 (kk : Int) := finO (V := (VT26 Z st fi fk e1 ii kk n cap ad fL)) hall 6 194 rfl
    have q195 : fr.tmps.getD 195 undef = .slice (cutA ad cap ii) (kk - ii) (cap - ii) := finO (V := (VT26 Z st fi fk e1 ii kk n cap ad fL)) hall 7 195 rfl
    obtain ⟨r196, s196, q196, n196⟩ := finO (V := (VT26 Z st fi fk e1 ii kk n cap ad fL)) hall 8 196 rfl
    obtain ⟨r17, s17, q17, n17⟩ := finO (V := (VT26 Z st fi fk e1 ii kk n cap ad fL)) hall 9 17 rfl
    obtain rfl := frame_eq hsame [(188, .int .u64 (st : Int)), (189, .int .i64 (ii : Int)), (190, .int .u64 (ii : Int)), (191, .int .u64 (fi : Int)), (192, .slice ad n cap), (193, .int .i64 (ii : Int)), (194, .int .i64 (kk : Int)), (195, .slice (cutA ad cap ii) (kk - ii) (cap - ii)), (196, .pointer (some ⟨r196, 0, none⟩)), (17, .pointer (some ⟨r17, 0, none⟩))] (by kernel_rfl) ⟨q188, q189, q190, q191, q192, q193, q194, q195, q196, q17, trivial⟩
    clear hall hsame q188 q189 q190 q191 q192 q193 q194 q195 q196 q17
    simp only [List.foldl, List.setIfInBounds_toArray, List.set_cons_succ, List.set_cons_zero]
    have hb := hsn.below (B := W17.heap.size) (fun _ _ => rfl) (Nat.le_refl _)
    have rz := n17.1
    have LZ : Bx (w.heap.size ≤ Z) := ⟨by rw [HZ.out]; exact KW17.out.size⟩
    clear hsn n17 n196
    have AP47 := Bx.mk (ApC.fresh R_w15.out rz (by rw [HZ.out]; exact Nat.le_refl _))
    have AP48 := Bx.mk (ApC.fresh R_y13.out rz (by rw [HZ.out]; exact Nat.le_refl _))
    have AP49 := Bx.mk (ApC.fresh R_z12.out rz (by rw [HZ.out]; exact Nat.le_refl _))
    have AP50 := Bx.mk (ApC.fresh R_l11.out rz (by rw [HZ.out]; exact Nat.le_refl _))
    have AP51 := Bx.mk (ApC.fresh R_d2.out rz (by rw [HZ.out]; exact Nat.le_refl _))
    have KW18 := Bx.mk (KW17.out.trans (hb.mono KW17.out.size)); have HE19 := Bx.mk (HE18.out.below hb); have HH19 := Bx.mk (HH18.out.below hb); have R_w16 := Bx.mk (R_w15.out.below hb); have R_y14 := Bx.mk (R_y13.out.below hb); have R_z13 := Bx.mk (R_z12.out.below hb); have R_l12 := Bx.mk (R_l11.out.below hb); have O5 := Bx.mk (own_keep O4.out (Keep.of_below hb (fun _ => False)) (fun _ _ h => h)); have R_d3 := Bx.mk (R_d2.out.below hb)
    clear hb KW17 HE18 HH18 R_w15 R_y13 R_z12 R_l11 O4 R_d2
    have R_g0 := Bx.mk (rz.mono LZ.out)
    clear rz HZ LZ
    obtain ⟨ky, hky⟩ : ∃ k, k = (rowC fL fi fk).length := ⟨_, rfl⟩
    have KYL : Bx (ky ≤ 128) := ⟨by rw [hky]; exact rowC_len (by have := SL.out; have := IK.out; have := KN.out; have := FI.out; have := FK.out; have := E1.out; omega)⟩
    obtain ⟨hy, hhy⟩ : ∃ hs, hs = hsC (rowC fL fi fk) := ⟨_, rfl⟩
    have HHY := Bx.mk hhy; have HKY := Bx.mk hky
    have Y32 : Bx (∀ x ∈ hy, x.length = 32) := ⟨by rw [hhy]; exact hsC_mem R_y14.out.h32⟩
    have KYH : Bx (ky = hy.length) := ⟨by rw [hhy, hsC_len, hky]⟩
    clear hhy hky
    go_upto_region 27 with (fail)
    refine wp_region_seq8 (n := 252) VT27mk (fun _ => none) (VT27 fi fk ky r9 r17 hy) (by kernel_rfl) rfl (fun _ _ => rfl) (fun j i hj _ => by cases hj) ?_ ?_ ?_
    · exact fun oi oj v own w own' w' hij h r => VT27_mono fi fk ky r9 r17 hy oi oj v own w own' w' (by omega)  h r
    · intro oi o hi f u own hsame hsn hfr hlate hkeep8 hdep
      have hkeep := hkeep8 _ (Nat.le_refl _)
      have hb6 := hsn.below (B := W18.heap.size) (fun _ _ => rfl) (Nat.le_refl _)
      match oi, hi with
      | 0, hi =>
        cases (show some _ = some o from hi)
        have e17 : f.tmps.getD 17 undef = .pointer (some ⟨r17, 0, none⟩) := hlate 17 (earlyS (by kernel_rfl))
        clear hdep hsame hi hlate hfr hkeep
        exact .inl ⟨wanted_none rfl, showsO_move hsn rfl _ rfl e17⟩
      | 1, hi =>
        cases (show some _ = some o from hi)
        have e197 : (f.tmps.getD 197 undef) = .pointer (some ⟨r17, 0, none⟩) := depS (V := (VT27 fi fk ky r9 r17 hy)) hdep 0 197 (by decide) (by kernel_rfl)
        clear hdep hsame hi hlate hfr hkeep
        exact .inl ⟨wanted_none rfl, showsO_pure hsn rfl (.bool false) (by simp only [execOp, Act.eval]; go_simp) rfl⟩
      | 2, hi =>
        cases (show some _ = some o from hi)
        have e198 : (f.tmps.getD 198 undef) = .bool false := depS (V := (VT27 fi fk ky r9 r17 hy)) hdep 1 198 (by decide) (by kernel_rfl)
        clear hdep hsame hi hlate hfr hkeep
        exact .inl ⟨wanted_none rfl, showsO_move hsn rfl _ rfl e198⟩
      | 3, hi =>
        cases (show some _ = some o from hi)
        have e9 : f.tmps.getD 9 undef = .pointer (some ⟨r9, 0, none⟩) := hlate 9 (earlyS (by kernel_rfl))
        have eg : f.tmps.getD 199 undef = .bool false := depS (V := (VT27 fi fk ky r9 r17 hy)) hdep 2 199 (by decide) (by kernel_rfl)
        clear hdep hsame hi hlate hfr hkeep
        exact .inl ⟨wanted_of 2 rfl eg (by kernel_rfl), showsO_move hsn rfl _ rfl e9⟩
      | 4, hi =>
        cases (show some _ = some o from hi)
        have e200 : (f.tmps.getD 200 undef) = .pointer (some ⟨r9, 0, none⟩) := depS (V := (VT27 fi fk ky r9 r17 hy)) hdep 3 200 (by decide) (by kernel_rfl)
        have eg : f.tmps.getD 199 undef = .bool false := depS (V := (VT27 fi fk ky r9 r17 hy)) hdep 2 199 (by decide) (by kernel_rfl)
        clear hdep hsame hi hlate hfr hkeep
        have c := rhss_any _ u _ _ _ _ _ ky HKY.out hy HHY.out (R_y14.out.below hb6) (by have := KYL.out; omega) 0 (Nat.zero_le _)
        exact .inl ⟨wanted_of 2 rfl eg (by kernel_rfl), showsO_call (R := fun v w' => w'.ownsRow 0 28 32 v ky (hcells hy) ∧ ∀ k, v.ownBlock = some k → u.heap.size ≤ k) hsn rfl 13 #[.pointer (some ⟨r9, 0, none⟩)] (by simp only [execOp, Act.eval]; go_simp) c (fun v w' h _ => ⟨h.1, fun k hk => hsn.top k (h.2 k hk)⟩)⟩
      | 5, hi =>
        cases (show some _ = some o from hi)
        have e17 : f.tmps.getD 17 undef = .pointer (some ⟨r17, 0, none⟩) := hlate 17 (earlyS (by kernel_rfl))
        have eg : f.tmps.getD 199 undef = .bool false := depS (V := (VT27 fi fk ky r9 r17 hy)) hdep 2 199 (by decide) (by kernel_rfl)
        clear hdep hsame hi hlate hfr hkeep
        exact .inl ⟨wanted_of 2 rfl eg (by kernel_rfl), showsO_move hsn rfl _ rfl e17⟩
      | 6, hi =>
        cases (show some _ = some o from hi)
        have e202 : (f.tmps.getD 202 undef) = .pointer (some ⟨r17, 0, none⟩) := depS (V := (VT27 fi fk ky r9 r17 hy)) hdep 5 202 (by decide) (by kernel_rfl)
        have eg : f.tmps.getD 199 undef = .bool false := depS (V := (VT27 fi fk ky r9 r17 hy)) hdep 2 199 (by decide) (by kernel_rfl)
        clear hdep hsame hi hlate hfr hkeep
        have c := rhss_any _ u _ _ _ _ _ ky HKY.out hy HHY.out (R_g0.out.below hb6) (by have := KYL.out; omega) 0 (Nat.zero_le _)
        exact .inl ⟨wanted_of 2 rfl eg (by kernel_rfl), showsO_call (R := fun v w' => w'.ownsRow 0 28 32 v ky (hcells hy) ∧ ∀ k, v.ownBlock = some k → u.heap.size ≤ k) hsn rfl 13 #[.pointer (some ⟨r17, 0, none⟩)] (by simp only [execOp, Act.eval]; go_simp) c (fun v w' h _ => ⟨h.1, fun k hk => hsn.top k (h.2 k hk)⟩)⟩
      | 7, hi =>
        cases (show some _ = some o from hi)
        have e201 : RowN own u (f.tmps.getD 201 undef) 0 28 32 ky (hcells hy) := depS (V := (VT27 fi fk ky r9 r17 hy)) hdep 4 201 (by decide) (by kernel_rfl)
        have e203 : RowN own u (f.tmps.getD 203 undef) 0 28 32 ky (hcells hy) := depS (V := (VT27 fi fk ky r9 r17 hy)) hdep 6 203 (by decide) (by kernel_rfl)
        have eg : f.tmps.getD 199 undef = .bool false := depS (V := (VT27 fi fk ky r9 r17 hy)) hdep 2 199 (by decide) (by kernel_rfl)
        clear hdep hsame hi hlate hfr hkeep
        obtain ⟨hr1, _⟩ := e201
        obtain ⟨ax, cx, e201, _, _, _⟩ := own_shape hr1
        rw [e201] at hr1
        obtain ⟨hr2, _⟩ := e203
        obtain ⟨ay, cy, e203, _, _, _⟩ := own_shape hr2
        rw [e203] at hr2
        have c := same_any u _ _ _ hy _ _ _ hy (hss_own hr1 Y32.out KYH.out) (hss_own hr2 Y32.out KYH.out)
        rw [beq_self_eq_true] at c
        exact .inl ⟨wanted_of 2 rfl eg (by kernel_rfl), showsO_call1 hsn rfl 21 #[.slice ax ky cx, .slice ay ky cy] (by simp only [execOp, Act.eval]; go_simp) (c) (fun _ => rfl)⟩
      | 8, hi =>
        cases (show some _ = some o from hi)
        have e204 : (f.tmps.getD 204 undef) = .bool true := depS (V := (VT27 fi fk ky r9 r17 hy)) hdep 7 204 (by decide) (by kernel_rfl)
        have eg : f.tmps.getD 199 undef = .bool false := depS (V := (VT27 fi fk ky r9 r17 hy)) hdep 2 199 (by decide) (by kernel_rfl)
        clear hdep hsame hi hlate hfr hkeep
        exact .inl ⟨wanted_of 2 rfl eg (by kernel_rfl), showsO_pure hsn rfl (.bool false) (by simp only [execOp, Act.eval]; go_simp) rfl⟩
      | 9, hi =>
        cases (show some _ = some o from hi)
        have e199 : (f.tmps.getD 199 undef) = .bool false := depS (V := (VT27 fi fk ky r9 r17 hy)) hdep 2 199 (by decide) (by kernel_rfl)
        have e205 : (f.tmps.getD 205 undef) = .bool false := depS (V := (VT27 fi fk ky r9 r17 hy)) hdep 8 205 (by decide) (by kernel_rfl)
        clear hdep hsame hi hlate hfr hkeep
        exact .inl ⟨wanted_none rfl, showsO_pure hsn rfl (.bool false) (by simp only [execOp, Act.eval]; go_simp) rfl⟩
      | 10, hi =>
        cases (show some _ = some o from hi)
        have e206 : (f.tmps.getD 206 undef) = .bool false := depS (V := (VT27 fi fk ky r9 r17 hy)) hdep 9 206 (by decide) (by kernel_rfl)
        clear hdep hsame hi hlate hfr hkeep
        exact .inl ⟨wanted_none rfl, showsO_move hsn rfl _ rfl e206⟩
      | 11, hi =>
        cases (show some _ = some o from hi)
        have e9 : f.tmps.getD 9 undef = .pointer (some ⟨r9, 0, none⟩) := hlate 9 (earlyS (by kernel_rfl))
        have eg : f.tmps.getD 207 undef = .bool false := depS (V := (VT27 fi fk ky r9 r17 hy)) hdep 10 207 (by decide) (by kernel_rfl)
        clear hdep hsame hi hlate hfr hkeep
        exact .inl ⟨wanted_of 10 rfl eg (by kernel_rfl), showsO_move hsn rfl _ rfl e9⟩
      | 12, hi =>
        cases (show some _ = some o from hi)
        have e208 : (f.tmps.getD 208 undef) = .pointer (some ⟨r9, 0, none⟩) := depS (V := (VT27 fi fk ky r9 r17 hy)) hdep 11 208 (by decide) (by kernel_rfl)
        have eg : f.tmps.getD 207 undef = .bool false := depS (V := (VT27 fi fk ky r9 r17 hy)) hdep 10 207 (by decide) (by kernel_rfl)
        clear hdep hsame hi hlate hfr hkeep
        have c := rspan_any (R_y14.out.below hb6)
        exact .inl ⟨wanted_of 10 rfl eg (by kernel_rfl), showsO_call1 hsn rfl 20 #[.pointer (some ⟨r9, 0, none⟩)] (by simp only [execOp, Act.eval]; go_simp) (c) (fun _ => rfl)⟩
      | 13, hi =>
        cases (show some _ = some o from hi)
        have e17 : f.tmps.getD 17 undef = .pointer (some ⟨r17, 0, none⟩) := hlate 17 (earlyS (by kernel_rfl))
        have eg : f.tmps.getD 207 undef = .bool false := depS (V := (VT27 fi fk ky r9 r17 hy)) hdep 10 207 (by decide) (by kernel_rfl)
        clear hdep hsame hi hlate hfr hkeep
        exact .inl ⟨wanted_of 10 rfl eg (by kernel_rfl), showsO_move hsn rfl _ rfl e17⟩
      | 14, hi =>
        cases (show some _ = some o from hi)
        have e210 : (f.tmps.getD 210 undef) = .pointer (some ⟨r17, 0, none⟩) := depS (V := (VT27 fi fk ky r9 r17 hy)) hdep 13 210 (by decide) (by kernel_rfl)
        have eg : f.tmps.getD 207 undef = .bool false := depS (V := (VT27 fi fk ky r9 r17 hy)) hdep 10 207 (by decide) (by kernel_rfl)
        clear hdep hsame hi hlate hfr hkeep
        have c := rspan_any (R_g0.out.below hb6)
        exact .inl ⟨wanted_of 10 rfl eg (by kernel_rfl), showsO_call1 hsn rfl 20 #[.pointer (some ⟨r17, 0, none⟩)] (by simp only [execOp, Act.eval]; go_simp) (c) (fun _ => rfl)⟩
      | 15, hi =>
        cases (show some _ = some o from hi)
        have e209 : (f.tmps.getD 209 undef) = .agg #[.int .u64 (fi : Int), .int .u64 (fk : Int)] := depS (V := (VT27 fi fk ky r9 r17 hy)) hdep 12 209 (by decide) (by kernel_rfl)
        have e211 : (f.tmps.getD 211 undef) = .agg #[.int .u64 (fi : Int), .int .u64 (fk : Int)] := depS (V := (VT27 fi fk ky r9 r17 hy)) hdep 14 211 (by decide) (by kernel_rfl)
        have eg : f.tmps.getD 207 undef = .bool false := depS (V := (VT27 fi fk ky r9 r17 hy)) hdep 10 207 (by decide) (by kernel_rfl)
        clear hdep hsame hi hlate hfr hkeep
        exact .inl ⟨wanted_of 10 rfl eg (by kernel_rfl), showsO_pure hsn rfl (.bool false) (by simp only [execOp, Act.eval]; first | (go_simp; done) | (go_simp <;> rfl)) rfl⟩
      | 16, hi =>
        cases (show some _ = some o from hi)
        have e207 : (f.tmps.getD 207 undef) = .bool false := depS (V := (VT27 fi fk ky r9 r17 hy)) hdep 10 207 (by decide) (by kernel_rfl)
        have e212 : (f.tmps.getD 212 undef) = .bool false := depS (V := (VT27 fi fk ky r9 r17 hy)) hdep 15 212 (by decide) (by kernel_rfl)
        clear hdep hsame hi hlate hfr hkeep
        exact .inl ⟨wanted_none rfl, showsO_pure hsn rfl (.bool false) (by simp only [execOp, Act.eval]; go_simp) rfl⟩
      | n + 17, hi => exact absurd hi (by simp)
    intro fr W19 own hsame hsn hall
    have q197 : fr.tmps.getD 197 undef = .pointer (some ⟨r17, 0, none⟩) := finO (V := (VT27 fi fk ky r9 r17 hy)) hall 0 197 rfl
    have q198 : fr.tmps.getD 198 undef = .bool false := finO (V := (VT27 fi fk ky r9 r17 hy)) hall 1 198 rfl
    have q199 : fr.tmps.getD 199 undef = .bool false := finO (V := (VT27 fi fk ky r9 r17 hy)) hall 2 199 rfl
    have q200 : fr.tmps.getD 200 undef = .pointer (some ⟨r9, 0, none⟩) := finO (V := (VT27 fi fk ky r9 r17 hy)) hall 3 200 rfl
    have m201 := finO (V := (VT27 fi fk ky r9 r17 hy)) hall 4 201 rfl
    obtain ⟨r201, q201⟩ : ∃ r, fr.tmps.getD 201 undef = r := ⟨_, rfl⟩
    rw [q201] at m201
    have q202 : fr.tmps.getD 202 undef = .pointer (some ⟨r17, 0, none⟩) := finO (V := (VT27 fi fk ky r9 r17 hy)) hall 5 202 rfl
    have m203 := finO (V := (VT27 fi fk ky r9 r17 hy)) hall 6 203 rfl
    obtain ⟨r203, q203⟩ : ∃ r, fr.tmps.getD 203 undef = r := ⟨_, rfl⟩
    rw [q203] at m203
    have q204 : fr.tmps.getD 204 undef = .bool true := finO (V := (VT27 fi fk ky r9 r17 hy)) hall 7 204 rfl
    have q205 : fr.tmps.getD 205 undef = .bool false := finO (V := (VT27 fi fk ky r9 r17 hy)) hall 8 205 rfl
    have q206 : fr.tmps.getD 206 undef = .bool false := finO (V := (VT27 fi fk ky r9 r17 hy)) hall 9 206 rfl
    have q207 : fr.tmps.getD 207 undef = .bool false := finO (V := (VT27 fi fk ky r9 r17 hy)) hall 10 207 rfl
    have q208 : fr.tmps.getD 208 undef = .pointer (some ⟨r9, 0, none⟩) := finO (V := (VT27 fi fk ky r9 r17 hy)) hall 11 208 rfl
    have q209 : fr.tmps.getD 209 undef = .agg #[.int .u64 (fi : Int), .int .u64 (fk : Int)] := finO (V := (VT27 fi fk ky r9 r17 hy)) hall 12 209 rfl
    have q210 : fr.tmps.getD 210 undef = .pointer (some ⟨r17, 0, none⟩) := finO (V := (VT27 fi fk ky r9 r17 hy)) hall 13 210 rfl
    have q211 : fr.tmps.getD 211 undef = .agg #[.int .u64 (fi : Int), .int .u64 (fk : Int)] := finO (V := (VT27 fi fk ky r9 r17 hy)) hall 14 211 rfl
    have q212 : fr.tmps.getD 212 undef = .bool false := finO (V := (VT27 fi fk ky r9 r17 hy)) hall 15 212 rfl
    have q213 : fr.tmps.getD 213 undef = .bool false := finO (V := (VT27 fi fk ky r9 r17 hy)) hall 16 213 rfl
    obtain rfl := frame_eq hsame [(197, .pointer (some ⟨r17, 0, none⟩)), (198, .bool false), (199, .bool false), (200, .pointer (some ⟨r9, 0, none⟩)), (201, r201), (202, .pointer (some ⟨r17, 0, none⟩)), (203, r203), (204, .bool true), (205, .bool false), (206, .bool false), (207, .bool false), (208, .pointer (some ⟨r9, 0, none⟩)), (209, .agg #[.int .u64 (fi : Int), .int .u64 (fk : Int)]), (210, .pointer (some ⟨r17, 0, none⟩)), (211, .agg #[.int .u64 (fi : Int), .int .u64 (fk : Int)]), (212, .bool false), (213, .bool false)] (by kernel_rfl) ⟨q197, q198, q199, q200, q201, q202, q203, q204, q205, q206, q207, q208, q209, q210, q211, q212, q213, trivial⟩
    clear hall hsame q197 q198 q199 q200 q201 q202 q203 q204 q205 q206 q207 q208 q209 q210 q211 q212 q213
    simp only [List.foldl, List.setIfInBounds_toArray, List.set_cons_succ, List.set_cons_zero]
    have hb := hsn.below (B := W18.heap.size) (fun _ _ => rfl) (Nat.le_refl _)
    clear hsn m201 m203
    have KW19 := Bx.mk (KW18.out.trans (hb.mono KW18.out.size)); have HE20 := Bx.mk (HE19.out.below hb); have HH20 := Bx.mk (HH19.out.below hb); have R_w17 := Bx.mk (R_w16.out.below hb); have R_y15 := Bx.mk (R_y14.out.below hb); have R_z14 := Bx.mk (R_z13.out.below hb); have R_l13 := Bx.mk (R_l12.out.below hb); have O6 := Bx.mk (own_keep O5.out (Keep.of_below hb (fun _ => False)) (fun _ _ h => h)); have R_d4 := Bx.mk (R_d3.out.below hb); have R_g1 := Bx.mk (R_g0.out.below hb)
    clear hb KW18 HE19 HH19 R_w16 R_y14 R_z13 R_l12 O5 R_d3 R_g0
    obtain ⟨V, hV⟩ : ∃ x, x = oneB 9 := ⟨_, rfl⟩
    have HV := Bx.mk hV; have V32 := Bx.mk (show V.length = 32 by rw [hV]; exact oneB_length _)
    obtain ⟨LV, hLV⟩ : ∃ LV, LV = pushN (rowC fL st e1) (0, e1, V) := ⟨_, rfl⟩
    have HLV := Bx.mk hLV
    have LVL : Bx (LV.length ≤ 129) := ⟨by rw [hLV]; exact Nat.le_trans (pushN_len _ _) (by have := KL.out; have := HK.out; omega)⟩
    clear hV hLV
    have ca := rapp_any w.heap.size W19 r11 st e1 (rowC fL st e1) sj2 R_l13.out V V32.out (fun u hu => HEB.out.tab.below (KW19.out.trans hu)) KW19.out.size (by have := KL.out; have := HK.out; omega) (by have := SL.out; have := IK.out; have := KN.out; have := FI.out; have := FK.out; have := E1.out; omega)
    rw [hv_agg, ← HLV.out] at ca
    have CA := Bx.mk ca; clear ca
    go_wp2_with (guard_target =~ wpList _ _ _ (⟨some 215, _, _, _, _, _⟩ :: _) _ _; refine wpList_buildC (by simp [Region.wanted]) 28 #[(0, .const (.int .u8 9))] rfl (ocells V) (by simp only [List.map_toArray, List.map_cons, List.map_nil, Act.eval]; rw [HV.out]; exact built_nineC) ?_)
    refine CA.out.mono ?_
    clear CA
    rintro e W20 ⟨rfl, sj5, hR, hk, hs5⟩
    have hb := hk.below (B := w.heap.size) KW19.out.size (fun k h => R_l13.out.ge k h)
    have AP52 := Bx.mk (ApC.turn (AP27.out) hs5 (fun k hk => R_w17.out.lt k hk))
    have AP53 := Bx.mk (ApC.turn (AP29.out) hs5 (fun k hk => R_z14.out.lt k hk))
    have AP54 := Bx.mk (ApC.turn (AP45.out) hs5 (fun k hk => R_d4.out.lt k hk))
    have R_w18 := Bx.mk (R_w17.out.kept hk (fun j hj h => AP27.out.symm j hj h))
    have R_z15 := Bx.mk (R_z14.out.kept hk (fun j hj h => AP29.out.symm j hj h))
    have R_d5 := Bx.mk (R_d4.out.kept hk (fun j hj h => AP45.out.symm j hj h))
    have O7 := Bx.mk (own_keep O6.out hk (rowH_apart R_l13.out O6.out))
    have KW20 := Bx.mk (KW19.out.trans hb)
    have R_l14 := Bx.mk hR
    have HE21 := Bx.mk (HEB.out.below KW20.out)
    have HH21 := Bx.mk (HHB.out.below KW20.out)
    clear hb hk hs5 R_w17 R_z14 R_d4 O6 KW19 R_l13 HE20 HH20
    clear hR
    have ca := rapp_any w.heap.size W20 r15 st e1 (rowC fL st e1) s15 R_d5.out V V32.out (fun u hu => HEB.out.tab.below (KW20.out.trans hu)) KW20.out.size (by have := KL.out; have := HK.out; omega) (by have := SL.out; have := IK.out; have := KN.out; have := FI.out; have := FK.out; have := E1.out; omega)
    rw [hv_agg, ← HLV.out] at ca
    have CA := Bx.mk ca; clear ca
    go_wp2_with (guard_target =~ wpList _ _ _ (⟨some 220, _, _, _, _, _⟩ :: _) _ _; refine wpList_buildC (by simp [Region.wanted, yielded]) 28 #[(0, .const (.int .u8 9))] rfl (ocells V) (by simp only [List.map_toArray, List.map_cons, List.map_nil, Act.eval]; rw [HV.out]; exact built_nineC) ?_)
    refine CA.out.mono ?_
    clear CA
    rintro e W21 ⟨rfl, sj6, hR, hk, hs5⟩
    have hb := hk.below (B := w.heap.size) KW20.out.size (fun k h => R_d5.out.ge k h)
    have AP55 := Bx.mk (ApC.turn (AP42.out.symm) hs5 (fun k hk => R_w18.out.lt k hk))
    have AP56 := Bx.mk (ApC.turn (AP44.out.symm) hs5 (fun k hk => R_z15.out.lt k hk))
    have AP57 := Bx.mk (ApC.turn (AP54.out.symm) hs5 (fun k hk => R_l14.out.lt k hk))
    have R_w19 := Bx.mk (R_w18.out.kept hk (fun j hj h => AP42.out j hj h))
    have R_z16 := Bx.mk (R_z15.out.kept hk (fun j hj h => AP44.out j hj h))
    have R_l15 := Bx.mk (R_l14.out.kept hk (fun j hj h => AP54.out j hj h))
    have O8 := Bx.mk (own_keep O7.out hk (rowH_apart R_d5.out O7.out))
    have KW21 := Bx.mk (KW20.out.trans hb)
    have R_d6 := Bx.mk hR
    have HE22 := Bx.mk (HEB.out.below KW21.out)
    have HH22 := Bx.mk (HHB.out.below KW21.out)
    clear hb hk hs5 R_w18 R_z15 R_l14 O7 KW20 R_d5 HE21 HH21
    clear hR
    obtain ⟨kz, hkz⟩ : ∃ k, k = (rowC fL fk e1).length := ⟨_, rfl⟩
    have KZL : Bx (kz ≤ 128) := ⟨by rw [hkz]; exact rowC_len (by have := SL.out; have := IK.out; have := KN.out; have := FI.out; have := FK.out; have := E1.out; omega)⟩
    obtain ⟨hz, hhz⟩ : ∃ hs, hs = hsC (rowC fL fk e1) := ⟨_, rfl⟩
    have HHZ := Bx.mk hhz; have HKZ := Bx.mk hkz
    have Z32 : Bx (∀ x ∈ hz, x.length = 32) := ⟨by rw [hhz]; exact hsC_mem R_z16.out.h32⟩
    have KZH : Bx (kz = hz.length) := ⟨by rw [hhz, hsC_len, hkz]⟩
    obtain ⟨kv, hkv⟩ : ∃ k, k = LV.length := ⟨_, rfl⟩
    have KVL : Bx (kv ≤ 129) := ⟨by rw [hkv]; exact LVL.out⟩
    obtain ⟨hl, hhl⟩ : ∃ hs, hs = hsC LV := ⟨_, rfl⟩
    have HHV := Bx.mk hhl; have HKV := Bx.mk hkv
    have L32 : Bx (∀ x ∈ hl, x.length = 32) := ⟨by rw [hhl]; exact hsC_mem R_l15.out.h32⟩
    have KVH : Bx (kv = hl.length) := ⟨by rw [hhl, hsC_len, hkv]⟩
    clear hhz hkz hhl hkv
    obtain ⟨Z, hZ⟩ : ∃ Z, Z = W21.heap.size := ⟨_, rfl⟩
    have HZ := Bx.mk hZ; clear hZ
    go_upto_region 31 with (fail)
    refine wp_region_own8 (n := 252) VT31mk (fun _ => none) (VT31 Z st fk e1 kk n cap k c14 kv kz r7 r10 r11 r15 ad a14 fL hs hl hz) (by kernel_rfl) (by kernel_rfl) rfl (fun _ _ => rfl) (fun j i hj _ => by cases hj) ?_ ?_ ?_
    · exact fun oi oj v own w own' w' hij _ h r => VT31_mono Z st fk e1 kk n cap k c14 kv kz r7 r10 r11 r15 ad a14 fL hs hl hz oi oj v own w own' w' hij h r
    · intro oi o hi f u own hsame hsn hfr hlate hkeep8 hdep
      have hkeep := hkeep8 _ (.inl rfl)
      have hb6 := hsn.below (B := W21.heap.size) (fun _ _ => rfl) (Nat.le_refl _)
      match oi, hi with
      | 0, hi =>
        cases (show some _ = some o from hi)
        have e11 : f.tmps.getD 11 undef = .pointer (some ⟨r11, 0, none⟩) := hsame.slot 11 (fun i o h => invB2_not 11 (by kernel_rfl) h)
        clear hdep hsame hi hlate hfr hkeep
        exact .inl ⟨wanted_none rfl, showsO_move hsn rfl _ rfl e11⟩
      | 1, hi =>
        cases (show some _ = some o from hi)
        have e224 : (f.tmps.getD 224 undef) = .pointer (some ⟨r11, 0, none⟩) := depO (V := (VT31 Z st fk e1 kk n cap k c14 kv kz r7 r10 r11 r15 ad a14 fL hs hl hz)) hdep 0 224 (by kernel_rfl) (by kernel_rfl)
        clear hdep hsame hi hlate hfr hkeep
        have c := rhss_any _ u _ _ _ _ _ kv HKV.out hl HHV.out (R_l15.out.below hb6) (by have := KVL.out; omega) 0 (Nat.zero_le _)
        exact .inl ⟨wanted_none rfl, showsO_call (R := fun v w' => w'.ownsRow 0 28 32 v kv (hcells hl) ∧ ∀ k, v.ownBlock = some k → u.heap.size ≤ k) hsn rfl 13 #[.pointer (some ⟨r11, 0, none⟩)] (by simp only [execOp, Act.eval]; go_simp) c (fun v w' h _ => ⟨h.1, fun k hk => hsn.top k (h.2 k hk)⟩)⟩
      | 2, hi =>
        cases (show some _ = some o from hi)
        have e15 : f.tmps.getD 15 undef = .pointer (some ⟨r15, 0, none⟩) := hsame.slot 15 (fun i o h => invB2_not 15 (by kernel_rfl) h)
        clear hdep hsame hi hlate hfr hkeep
        exact .inl ⟨wanted_none rfl, showsO_move hsn rfl _ rfl e15⟩
      | 3, hi =>
        cases (show some _ = some o from hi)
        have e226 : (f.tmps.getD 226 undef) = .pointer (some ⟨r15, 0, none⟩) := depO (V := (VT31 Z st fk e1 kk n cap k c14 kv kz r7 r10 r11 r15 ad a14 fL hs hl hz)) hdep 2 226 (by kernel_rfl) (by kernel_rfl)
        clear hdep hsame hi hlate hfr hkeep
        have c := rhss_any _ u _ _ _ _ _ kv HKV.out hl HHV.out (R_d6.out.below hb6) (by have := KVL.out; omega) 0 (Nat.zero_le _)
        exact .inl ⟨wanted_none rfl, showsO_call (R := fun v w' => w'.ownsRow 0 28 32 v kv (hcells hl) ∧ ∀ k, v.ownBlock = some k → u.heap.size ≤ k) hsn rfl 13 #[.pointer (some ⟨r15, 0, none⟩)] (by simp only [execOp, Act.eval]; go_simp) c (fun v w' h _ => ⟨h.1, fun k hk => hsn.top k (h.2 k hk)⟩)⟩
      | 4, hi =>
        cases (show some _ = some o from hi)
        have e225 : RowN own u (f.tmps.getD 225 undef) 0 28 32 kv (hcells hl) := depO (V := (VT31 Z st fk e1 kk n cap k c14 kv kz r7 r10 r11 r15 ad a14 fL hs hl hz)) hdep 1 225 (by kernel_rfl) (by kernel_rfl)
        have e227 : RowN own u (f.tmps.getD 227 undef) 0 28 32 kv (hcells hl) := depO (V := (VT31 Z st fk e1 kk n cap k c14 kv kz r7 r10 r11 r15 ad a14 fL hs hl hz)) hdep 3 227 (by kernel_rfl) (by kernel_rfl)
        clear hdep hsame hi hlate hfr hkeep
        obtain ⟨hr1, _⟩ := e225
        obtain ⟨ax, cx, e225, _, _, _⟩ := own_shape hr1
        rw [e225] at hr1
        obtain ⟨hr2, _⟩ := e227
        obtain ⟨ay, cy, e227, _, _, _⟩ := own_shape hr2
        rw [e227] at hr2
        have c := same_any u _ _ _ hl _ _ _ hl (hss_own hr1 L32.out KVH.out) (hss_own hr2 L32.out KVH.out)
        rw [beq_self_eq_true] at c
        exact .inl ⟨wanted_none rfl, showsO_call1 hsn rfl 21 #[.slice ax kv cx, .slice ay kv cy] (by simp only [execOp, Act.eval]; go_simp) (c) (fun _ => rfl)⟩
      | 5, hi =>
        cases (show some _ = some o from hi)
        have e228 : (f.tmps.getD 228 undef) = .bool true := depO (V := (VT31 Z st fk e1 kk n cap k c14 kv kz r7 r10 r11 r15 ad a14 fL hs hl hz)) hdep 4 228 (by kernel_rfl) (by kernel_rfl)
        clear hdep hsame hi hlate hfr hkeep
        exact .inl ⟨wanted_none rfl, showsO_move hsn rfl _ rfl e228⟩
      | 6, hi =>
        cases (show some _ = some o from hi)
        have e7 : f.tmps.getD 7 undef = .pointer (some ⟨r7, 0, none⟩) := hsame.slot 7 (fun i o h => invB2_not 7 (by kernel_rfl) h)
        have eg : f.tmps.getD 229 undef = .bool true := depO (V := (VT31 Z st fk e1 kk n cap k c14 kv kz r7 r10 r11 r15 ad a14 fL hs hl hz)) hdep 5 229 (by kernel_rfl) (by kernel_rfl)
        clear hdep hsame hi hlate hfr hkeep
        exact .inl ⟨wanted_of 5 rfl eg (by kernel_rfl), showsO_move hsn rfl _ rfl e7⟩
      | 7, hi =>
        cases (show some _ = some o from hi)
        have e230 : (f.tmps.getD 230 undef) = .pointer (some ⟨r7, 0, none⟩) := depO (V := (VT31 Z st fk e1 kk n cap k c14 kv kz r7 r10 r11 r15 ad a14 fL hs hl hz)) hdep 6 230 (by kernel_rfl) (by kernel_rfl)
        have eg : f.tmps.getD 229 undef = .bool true := depO (V := (VT31 Z st fk e1 kk n cap k c14 kv kz r7 r10 r11 r15 ad a14 fL hs hl hz)) hdep 5 229 (by kernel_rfl) (by kernel_rfl)
        clear hdep hsame hi hlate hfr hkeep
        have c := rhss_any _ u _ _ _ _ _ k HK.out hs HHS.out (R_w19.out.below hb6) (by have := KL.out; omega) 0 (Nat.zero_le _)
        exact .inl ⟨wanted_of 5 rfl eg (by kernel_rfl), showsO_call (R := fun v w' => w'.ownsRow 0 28 32 v k (hcells hs) ∧ ∀ k, v.ownBlock = some k → u.heap.size ≤ k) hsn rfl 13 #[.pointer (some ⟨r7, 0, none⟩)] (by simp only [execOp, Act.eval]; go_simp) c (fun v w' h _ => ⟨h.1, fun k hk => hsn.top k (h.2 k hk)⟩)⟩
      | 8, hi =>
        cases (show some _ = some o from hi)
        have e14 : f.tmps.getD 14 undef = .slice a14 k c14 := hsame.slot 14 (fun i o h => invB2_not 14 (by kernel_rfl) h)
        have eg : f.tmps.getD 229 undef = .bool true := depO (V := (VT31 Z st fk e1 kk n cap k c14 kv kz r7 r10 r11 r15 ad a14 fL hs hl hz)) hdep 5 229 (by kernel_rfl) (by kernel_rfl)
        clear hdep hsame hi hlate hfr hkeep
        exact .inl ⟨wanted_of 5 rfl eg (by kernel_rfl), showsO_move hsn rfl _ rfl e14⟩
      | 9, hi =>
        cases (show some _ = some o from hi)
        have e231 : RowN own u (f.tmps.getD 231 undef) 0 28 32 k (hcells hs) := depO (V := (VT31 Z st fk e1 kk n cap k c14 kv kz r7 r10 r11 r15 ad a14 fL hs hl hz)) hdep 7 231 (by kernel_rfl) (by kernel_rfl)
        have e232 : (f.tmps.getD 232 undef) = .slice a14 k c14 := depO (V := (VT31 Z st fk e1 kk n cap k c14 kv kz r7 r10 r11 r15 ad a14 fL hs hl hz)) hdep 8 232 (by kernel_rfl) (by kernel_rfl)
        have eg : f.tmps.getD 229 undef = .bool true := depO (V := (VT31 Z st fk e1 kk n cap k c14 kv kz r7 r10 r11 r15 ad a14 fL hs hl hz)) hdep 5 229 (by kernel_rfl) (by kernel_rfl)
        clear hdep hsame hi hlate hfr hkeep
        obtain ⟨hr1, _⟩ := e231
        obtain ⟨ax, cx, e231, _, _, _⟩ := own_shape hr1
        rw [e231] at hr1
        have c := same_any u _ _ _ hs _ _ _ hs (hss_own hr1 S32.out KH.out) ((hss_own O8.out S32.out KH.out).below hb6)
        rw [beq_self_eq_true] at c
        exact .inl ⟨wanted_of 5 rfl eg (by kernel_rfl), showsO_call1 hsn rfl 21 #[.slice ax k cx, .slice a14 k c14] (by simp only [execOp, Act.eval]; go_simp) (c) (fun _ => rfl)⟩
      | 10, hi =>
        cases (show some _ = some o from hi)
        have e229 : (f.tmps.getD 229 undef) = .bool true := depO (V := (VT31 Z st fk e1 kk n cap k c14 kv kz r7 r10 r11 r15 ad a14 fL hs hl hz)) hdep 5 229 (by kernel_rfl) (by kernel_rfl)
        have e233 : (f.tmps.getD 233 undef) = .bool true := depO (V := (VT31 Z st fk e1 kk n cap k c14 kv kz r7 r10 r11 r15 ad a14 fL hs hl hz)) hdep 9 233 (by kernel_rfl) (by kernel_rfl)
        clear hdep hsame hi hlate hfr hkeep
        exact .inl ⟨wanted_none rfl, showsO_pure hsn rfl (.bool true) (by simp only [execOp, Act.eval]; go_simp) rfl⟩
      | 11, hi =>
        cases (show some _ = some o from hi)
        have e234 : (f.tmps.getD 234 undef) = .bool true := depO (V := (VT31 Z st fk e1 kk n cap k c14 kv kz r7 r10 r11 r15 ad a14 fL hs hl hz)) hdep 10 234 (by kernel_rfl) (by kernel_rfl)
        clear hdep hsame hi hlate hfr hkeep
        exact .inl ⟨wanted_none rfl, showsO_move hsn rfl _ rfl e234⟩
      | 12, hi =>
        cases (show some _ = some o from hi)
        have e10 : f.tmps.getD 10 undef = .pointer (some ⟨r10, 0, none⟩) := hsame.slot 10 (fun i o h => invB2_not 10 (by kernel_rfl) h)
        have eg : f.tmps.getD 235 undef = .bool true := depO (V := (VT31 Z st fk e1 kk n cap k c14 kv kz r7 r10 r11 r15 ad a14 fL hs hl hz)) hdep 11 235 (by kernel_rfl) (by kernel_rfl)
        clear hdep hsame hi hlate hfr hkeep
        exact .inl ⟨wanted_of 11 rfl eg (by kernel_rfl), showsO_move hsn rfl _ rfl e10⟩
      | 13, hi =>
        cases (show some _ = some o from hi)
        have e236 : (f.tmps.getD 236 undef) = .pointer (some ⟨r10, 0, none⟩) := depO (V := (VT31 Z st fk e1 kk n cap k c14 kv kz r7 r10 r11 r15 ad a14 fL hs hl hz)) hdep 12 236 (by kernel_rfl) (by kernel_rfl)
        have eg : f.tmps.getD 235 undef = .bool true := depO (V := (VT31 Z st fk e1 kk n cap k c14 kv kz r7 r10 r11 r15 ad a14 fL hs hl hz)) hdep 11 235 (by kernel_rfl) (by kernel_rfl)
        clear hdep hsame hi hlate hfr hkeep
        have c := rhss_any _ u _ _ _ _ _ kz HKZ.out hz HHZ.out (R_z16.out.below hb6) (by have := KZL.out; omega) 0 (Nat.zero_le _)
        exact .inl ⟨wanted_of 11 rfl eg (by kernel_rfl), showsO_call (R := fun v w' => w'.ownsRow 0 28 32 v kz (hcells hz) ∧ ∀ k, v.ownBlock = some k → u.heap.size ≤ k) hsn rfl 13 #[.pointer (some ⟨r10, 0, none⟩)] (by simp only [execOp, Act.eval]; go_simp) c (fun v w' h _ => ⟨h.1, fun k hk => hsn.top k (h.2 k hk)⟩)⟩
      | 14, hi =>
        cases (show some _ = some o from hi)
        have e4 : f.tmps.getD 4 undef = .int .u64 (st : Int) := hsame.slot 4 (fun i o h => invB2_not 4 (by kernel_rfl) h)
        have eg : f.tmps.getD 235 undef = .bool true := depO (V := (VT31 Z st fk e1 kk n cap k c14 kv kz r7 r10 r11 r15 ad a14 fL hs hl hz)) hdep 11 235 (by kernel_rfl) (by kernel_rfl)
        clear hdep hsame hi hlate hfr hkeep
        exact .inl ⟨wanted_of 11 rfl eg (by kernel_rfl), showsO_move hsn rfl _ rfl e4⟩
      | 15, hi =>
        cases (show some _ = some o from hi)
        have e6 : f.tmps.getD 6 undef = .int .i64 (kk : Int) := hsame.slot 6 (fun i o h => invB2_not 6 (by kernel_rfl) h)
        have eg : f.tmps.getD 235 undef = .bool true := depO (V := (VT31 Z st fk e1 kk n cap k c14 kv kz r7 r10 r11 r15 ad a14 fL hs hl hz)) hdep 11 235 (by kernel_rfl) (by kernel_rfl)
        clear hdep hsame hi hlate hfr hkeep
        exact .inl ⟨wanted_of 11 rfl eg (by kernel_rfl), showsO_move hsn rfl _ rfl e6⟩
      | 16, hi =>
        cases (show some _ = some o from hi)
        have e239 : (f.tmps.getD 239 undef) = .int .i64 (kk : Int) := depO (V := (VT31 Z st fk e1 kk n cap k c14 kv kz r7 r10 r11 r15 ad a14 fL hs hl hz)) hdep 15 239 (by kernel_rfl) (by kernel_rfl)
        have eg : f.tmps.getD 235 undef = .bool true := depO (V := (VT31 Z st fk e1 kk n cap k c14 kv kz r7 r10 r11 r15 ad a14 fL hs hl hz)) hdep 11 235 (by kernel_rfl) (by kernel_rfl)
        clear hdep hsame hi hlate hfr hkeep
        have k1 := IK.out; have k2 := KN.out; have k3 := NL.out
        have d1 : IntKind.u64.wrap (kk : Int) = (kk : Int) := by simp [IntKind.wrap, IntKind.bits, IntKind.signed]; omega
        exact .inl ⟨wanted_of 11 rfl eg (by kernel_rfl), showsO_pure hsn rfl (.int .u64 (kk : Int)) (by simp only [execOp, Act.eval]; go_simp) rfl⟩
      | 17, hi =>
        cases (show some _ = some o from hi)
        have e238 : (f.tmps.getD 238 undef) = .int .u64 (st : Int) := depO (V := (VT31 Z st fk e1 kk n cap k c14 kv kz r7 r10 r11 r15 ad a14 fL hs hl hz)) hdep 14 238 (by kernel_rfl) (by kernel_rfl)
        have e240 : (f.tmps.getD 240 undef) = .int .u64 (kk : Int) := depO (V := (VT31 Z st fk e1 kk n cap k c14 kv kz r7 r10 r11 r15 ad a14 fL hs hl hz)) hdep 16 240 (by kernel_rfl) (by kernel_rfl)
        have eg : f.tmps.getD 235 undef = .bool true := depO (V := (VT31 Z st fk e1 kk n cap k c14 kv kz r7 r10 r11 r15 ad a14 fL hs hl hz)) hdep 11 235 (by kernel_rfl) (by kernel_rfl)
        clear hdep hsame hi hlate hfr hkeep
        have d1 : IntKind.u64.wrap ((st : Int) + (kk : Int)) = (fk : Int) := by have k2 := KN.out; have k3 := SL.out; have k5 := FK.out; simp [IntKind.wrap, IntKind.bits, IntKind.signed]; omega
        exact .inl ⟨wanted_of 11 rfl eg (by kernel_rfl), showsO_pure hsn rfl (.int .u64 (fk : Int)) (by simp only [execOp, Act.eval]; go_simp) rfl⟩
      | 18, hi =>
        cases (show some _ = some o from hi)
        have e3 : f.tmps.getD 3 undef = .slice ad n cap := hsame.slot 3 (fun i o h => invB2_not 3 (by kernel_rfl) h)
        have eg : f.tmps.getD 235 undef = .bool true := depO (V := (VT31 Z st fk e1 kk n cap k c14 kv kz r7 r10 r11 r15 ad a14 fL hs hl hz)) hdep 11 235 (by kernel_rfl) (by kernel_rfl)
        clear hdep hsame hi hlate hfr hkeep
        exact .inl ⟨wanted_of 11 rfl eg (by kernel_rfl), showsO_move hsn rfl _ rfl e3⟩
      | 19, hi =>
        cases (show some _ = some o from hi)
        have e6 : f.tmps.getD 6 undef = .int .i64 (kk : Int) := hsame.slot 6 (fun i o h => invB2_not 6 (by kernel_rfl) h)
        have eg : f.tmps.getD 235 undef = .bool true := depO (V := (VT31 Z st fk e1 kk n cap k c14 kv kz r7 r10 r11 r15 ad a14 fL hs hl hz)) hdep 11 235 (by kernel_rfl) (by kernel_rfl)
        clear hdep hsame hi hlate hfr hkeep
        exact .inl ⟨wanted_of 11 rfl eg (by kernel_rfl), showsO_move hsn rfl _ rfl e6⟩
      | 20, hi =>
        cases (show some _ = some o from hi)
        have e242 : (f.tmps.getD 242 undef) = .slice ad n cap := depO (V := (VT31 Z st fk e1 kk n cap k c14 kv kz r7 r10 r11 r15 ad a14 fL hs hl hz)) hdep 18 242 (by kernel_rfl) (by kernel_rfl)
        have e243 : (f.tmps.getD 243 undef) = .int .i64 (kk : Int) := depO (V := (VT31 Z st fk e1 kk n cap k c14 kv kz r7 r10 r11 r15 ad a14 fL hs hl hz)) hdep 19 243 (by kernel_rfl) (by kernel_rfl)
        have eg : f.tmps.getD 235 undef = .bool true := depO (V := (VT31 Z st fk e1 kk n cap k c14 kv kz r7 r10 r11 r15 ad a14 fL hs hl hz)) hdep 11 235 (by kernel_rfl) (by kernel_rfl)
        clear hdep hsame hi hlate hfr hkeep
        have hn0 := HNIL.out
        have hc0 := HC.out.1
        have k1 := IK.out
        have k2 := KN.out
        have h1 : (0 : Int) ≤ (kk : Int) := by omega
        have h2 : (kk : Int) ≤ (n : Int) := by omega
        have h3 : (n : Int) ≤ (cap : Int) := by omega
        exact .inl ⟨wanted_of 11 rfl eg (by kernel_rfl), showsO_pure hsn rfl (.slice (cutA ad cap kk) (n - kk) (cap - kk)) (by rcases ad with _ | ad; (obtain rfl : cap = 0 := hn0 rfl; obtain rfl : n = 0 := (by omega); obtain rfl : kk = 0 := (by omega); simp only [execOp, Act.eval]; unfold cutA; go_simp); (by_cases hce : cap = kk; (have h5 : cap - kk = 0 := (by omega); unfold cutA; rw [if_pos hce]; subst hce; simp only [execOp, Act.eval]; go_simp); (have h5 : ¬ (cap - kk = 0) := (by omega); unfold cutA; rw [if_neg hce]; simp only [execOp, Act.eval]; go_simp))) rfl⟩
      | 21, hi =>
        cases (show some _ = some o from hi)
        have e241 : (f.tmps.getD 241 undef) = .int .u64 (fk : Int) := depO (V := (VT31 Z st fk e1 kk n cap k c14 kv kz r7 r10 r11 r15 ad a14 fL hs hl hz)) hdep 17 241 (by kernel_rfl) (by kernel_rfl)
        have e244 : (f.tmps.getD 244 undef) = .slice (cutA ad cap kk) (n - kk) (cap - kk) := depO (V := (VT31 Z st fk e1 kk n cap k c14 kv kz r7 r10 r11 r15 ad a14 fL hs hl hz)) hdep 20 244 (by kernel_rfl) (by kernel_rfl)
        have eg : f.tmps.getD 235 undef = .bool true := depO (V := (VT31 Z st fk e1 kk n cap k c14 kv kz r7 r10 r11 r15 ad a14 fL hs hl hz)) hdep 11 235 (by kernel_rfl) (by kernel_rfl)
        clear hdep hsame hi hlate hfr hkeep
        have c := appended_any u fk _ _ _ _ ((Hss.cutC HH22.out (i := kk) (k := n) (by have := KN.out; omega) (Nat.le_refl _)).below hb6) fL (fun t h => by rw [FC.out kk n (by have := KN.out; omega) (by rw [← HL.out]; exact Nat.le_refl _) t h, FK.out]) (HE22.out.below hb6).tab (by rw [List.length_drop, List.length_take, ← HL.out]; have := SL.out; have := KN.out; have := FK.out; omega) (by rw [List.length_drop, List.length_take, ← HL.out]; omega)
        rw [show fk + (n - kk) = e1 by have := KN.out; have := FK.out; have := E1.out; omega] at c
        exact .inl ⟨wanted_of 11 rfl eg (by kernel_rfl), showsO_call (R := fun v w' => ∃ r s, v = .pointer (some ⟨r, 0, none⟩) ∧ RaP u.heap.size w' r fk e1 (rowC fL fk e1) s) hsn rfl 16 #[.int .u64 (fk : Int), .slice (cutA ad cap kk) (n - kk) (cap - kk)] (by simp only [execOp, Act.eval]; go_simp) (c.mono fun e w' ⟨r, h1, ⟨s, h2⟩, h3⟩ => ⟨_, h1, ⟨r, s, rfl, h2⟩, h3⟩) (fun v w' ⟨r, s, h1, h2⟩ _ => ⟨r, s, h1, h2.mono (by rw [HZ.out]; exact hb6.size), fun k hk => hsn.top k (h2.ge k hk)⟩)⟩
      | 22, hi =>
        cases (show some _ = some o from hi)
        have e245 : MadeR own u (f.tmps.getD 245 undef) fk e1 Z (rowC fL fk e1) := depO (V := (VT31 Z st fk e1 kk n cap k c14 kv kz r7 r10 r11 r15 ad a14 fL hs hl hz)) hdep 21 245 (by kernel_rfl) (by kernel_rfl)
        have eg : f.tmps.getD 235 undef = .bool true := depO (V := (VT31 Z st fk e1 kk n cap k c14 kv kz r7 r10 r11 r15 ad a14 fL hs hl hz)) hdep 11 235 (by kernel_rfl) (by kernel_rfl)
        clear hdep hsame hi hlate hfr hkeep
        obtain ⟨rx, sx, qx, nx⟩ := e245
        have c := rhss_any _ u _ _ _ _ _ kz HKZ.out hz HHZ.out nx.1 (by have := KZL.out; omega) 0 (Nat.zero_le _)
        exact .inl ⟨wanted_of 11 rfl eg (by kernel_rfl), showsO_call (R := fun v w' => w'.ownsRow 0 28 32 v kz (hcells hz) ∧ ∀ k, v.ownBlock = some k → u.heap.size ≤ k) hsn rfl 13 #[.pointer (some ⟨rx, 0, none⟩)] (by simp only [execOp, Act.eval]; go_simp) c (fun v w' h _ => ⟨h.1, fun k hk => hsn.top k (h.2 k hk)⟩)⟩
      | 23, hi =>
        cases (show some _ = some o from hi)
        have e237 : RowN own u (f.tmps.getD 237 undef) 0 28 32 kz (hcells hz) := depO (V := (VT31 Z st fk e1 kk n cap k c14 kv kz r7 r10 r11 r15 ad a14 fL hs hl hz)) hdep 13 237 (by kernel_rfl) (by kernel_rfl)
        have e246 : RowN own u (f.tmps.getD 246 undef) 0 28 32 kz (hcells hz) := depO (V := (VT31 Z st fk e1 kk n cap k c14 kv kz r7 r10 r11 r15 ad a14 fL hs hl hz)) hdep 22 246 (by kernel_rfl) (by kernel_rfl)
        have eg : f.tmps.getD 235 undef = .bool true := depO (V := (VT31 Z st fk e1 kk n cap k c14 kv kz r7 r10 r11 r15 ad a14 fL hs hl hz)) hdep 11 235 (by kernel_rfl) (by kernel_rfl)
        clear hdep hsame hi hlate hfr hkeep
        obtain ⟨hr1, _⟩ := e237
        obtain ⟨ax, cx, e237, _, _, _⟩ := own_shape hr1
        rw [e237] at hr1
        obtain ⟨hr2, _⟩ := e246
        obtain ⟨ay, cy, e246, _, _, _⟩ := own_shape hr2
        rw [e246] at hr2
        have c := same_any u _ _ _ hz _ _ _ hz (hss_own hr1 Z32.out KZH.out) (hss_own hr2 Z32.out KZH.out)
        rw [beq_self_eq_true] at c
        exact .inl ⟨wanted_of 11 rfl eg (by kernel_rfl), showsO_call1 hsn rfl 21 #[.slice ax kz cx, .slice ay kz cy] (by simp only [execOp, Act.eval]; go_simp) (c) (fun _ => rfl)⟩
      | 24, hi =>
        cases (show some _ = some o from hi)
        have e235 : (f.tmps.getD 235 undef) = .bool true := depO (V := (VT31 Z st fk e1 kk n cap k c14 kv kz r7 r10 r11 r15 ad a14 fL hs hl hz)) hdep 11 235 (by kernel_rfl) (by kernel_rfl)
        have e247 : (f.tmps.getD 247 undef) = .bool true := depO (V := (VT31 Z st fk e1 kk n cap k c14 kv kz r7 r10 r11 r15 ad a14 fL hs hl hz)) hdep 23 247 (by kernel_rfl) (by kernel_rfl)
        clear hdep hsame hi hlate hfr hkeep
        exact .inl ⟨wanted_none rfl, showsO_pure hsn rfl (.bool true) (by simp only [execOp, Act.eval]; go_simp) rfl⟩
      | 25, hi =>
        cases (show some _ = some o from hi)
        have e248 : (f.tmps.getD 248 undef) = .bool true := depO (V := (VT31 Z st fk e1 kk n cap k c14 kv kz r7 r10 r11 r15 ad a14 fL hs hl hz)) hdep 24 248 (by kernel_rfl) (by kernel_rfl)
        clear hdep hsame hi hlate hfr hkeep
        exact .inl ⟨wanted_none rfl, showsO_move hsn rfl _ rfl e248⟩
      | 26, hi =>
        cases (show some _ = some o from hi)
        have eg : f.tmps.getD 249 undef = .bool true := depO (V := (VT31 Z st fk e1 kk n cap k c14 kv kz r7 r10 r11 r15 ad a14 fL hs hl hz)) hdep 25 249 (by kernel_rfl) (by kernel_rfl)
        clear hdep hsame hi hlate hfr hkeep
        have c := alive09_any u (HE22.out.below hb6).tab
        exact .inl ⟨wanted_of 25 rfl eg (by kernel_rfl), showsO_call1 hsn rfl 7 #[] (by simp only [execOp, Act.eval]; go_simp) (c) (fun _ => rfl)⟩
      | 27, hi =>
        cases (show some _ = some o from hi)
        have e249 : (f.tmps.getD 249 undef) = .bool true := depO (V := (VT31 Z st fk e1 kk n cap k c14 kv kz r7 r10 r11 r15 ad a14 fL hs hl hz)) hdep 25 249 (by kernel_rfl) (by kernel_rfl)
        have e250 : (f.tmps.getD 250 undef) = .bool true := depO (V := (VT31 Z st fk e1 kk n cap k c14 kv kz r7 r10 r11 r15 ad a14 fL hs hl hz)) hdep 26 250 (by kernel_rfl) (by kernel_rfl)
        clear hdep hsame hi hlate hfr hkeep
        exact .inl ⟨wanted_none rfl, showsO_pure hsn rfl (.bool true) (by simp only [execOp, Act.eval]; go_simp) rfl⟩
      | 28, hi =>
        cases (show some _ = some o from hi)
        have e251 : (f.tmps.getD 251 undef) = .bool true := depO (V := (VT31 Z st fk e1 kk n cap k c14 kv kz r7 r10 r11 r15 ad a14 fL hs hl hz)) hdep 27 251 (by kernel_rfl) (by kernel_rfl)
        clear hdep hsame hi hlate hfr hkeep
        exact .inl ⟨wanted_none rfl, showsO_assign hsn rfl _ rfl e251⟩
      | n + 29, hi => exact absurd hi (by simp)
    intro fr W22 own hsame hsn hall
    have q224 : fr.tmps.getD 224 undef = .pointer (some ⟨r11, 0, none⟩) := finO (V := (VT31 Z st fk e1 kk n cap k c14 kv kz r7 r10 r11 r15 ad a14 fL hs hl hz)) hall 0 224 rfl
    have m225 := finO (V := (VT31 Z st fk e1 kk n cap k c14 kv kz r7 r10 r11 r15 ad a14 fL hs hl hz)) hall 1 225 rfl
    obtain ⟨r225, q225⟩ : ∃ r, fr.tmps.getD 225 undef = r := ⟨_, rfl⟩
    rw [q225] at m225
    have q226 : fr.tmps.getD 226 undef = .pointer (some ⟨r15, 0, none⟩) := finO (V := (VT31 Z st fk e1 kk n cap k c14 kv kz r7 r10 r11 r15 ad a14 fL hs hl hz)) hall 2 226 rfl
    have m227 := finO (V := (VT31 Z st fk e1 kk n cap k c14 kv kz r7 r10 r11 r15 ad a14 fL hs hl hz)) hall 3 227 rfl
    obtain ⟨r227, q227⟩ : ∃ r, fr.tmps.getD 227 undef = r := ⟨_, rfl⟩
    rw [q227] at m227
    have q228 : fr.tmps.getD 228 undef = .bool true := finO (V := (VT31 Z st fk e1 kk n cap k c14 kv kz r7 r10 r11 r15 ad a14 fL hs hl hz)) hall 4 228 rfl
    have q229 : fr.tmps.getD 229 undef = .bool true := finO (V := (VT31 Z st fk e1 kk n cap k c14 kv kz r7 r10 r11 r15 ad a14 fL hs hl hz)) hall 5 229 rfl
    have q230 : fr.tmps.getD 230 undef = .pointer (some ⟨r7, 0, none⟩) := finO (V := (VT31 Z st fk e1 kk n cap k c14 kv kz r7 r10 r11 r15 ad a14 fL hs hl hz)) hall 6 230 rfl
    have m231 := finO (V := (VT31 Z st fk e1 kk n cap k c14 kv kz r7 r10 r11 r15 ad a14 fL hs hl hz)) hall 7 231 rfl
    obtain ⟨r231, q231⟩ : ∃ r, fr.tmps.getD 231 undef = r := ⟨_, rfl⟩
    rw [q231] at m231
    have q232 : fr.tmps.getD 232 undef = .slice a14 k c14 := finO (V := (VT31 Z st fk e1 kk n cap k c14 kv kz r7 r10 r11 r15 ad a14 fL hs hl hz)) hall 8 232 rfl
    have q233 : fr.tmps.getD 233 undef = .bool true := finO (V := (VT31 Z st fk e1 kk n cap k c14 kv kz r7 r10 r11 r15 ad a14 fL hs hl hz)) hall 9 233 rfl
    have q234 : fr.tmps.getD 234 undef = .bool true := finO (V := (VT31 Z st fk e1 kk n cap k c14 kv kz r7 r10 r11 r15 ad a14 fL hs hl hz)) hall 10 234 rfl
    have q235 : fr.tmps.getD 235 undef = .bool true := finO (V := (VT31 Z st fk e1 kk n cap k c14 kv kz r7 r10 r11 r15 ad a14 fL hs hl hz)) hall 11 235 rfl
    have q236 : fr.tmps.getD 236 undef = .pointer (some ⟨r10, 0, none⟩) := finO (V := (VT31 Z st fk e1 kk n cap k c14 kv kz r7 r10 r11 r15 ad a14 fL hs hl hz)) hall 12 236 rfl
    have m237 := finO (V := (VT31 Z st fk e1 kk n cap k c14 kv kz r7 r10 r11 r15 ad a14 fL hs hl hz)) hall 13 237 rfl
    obtain ⟨r237, q237⟩ : ∃ r, fr.tmps.getD 237 undef = r := ⟨_, rfl⟩
    rw [q237] at m237
    have q238 : fr.tmps.getD 238 undef = .int .u64 (st : Int) := finO (V := (VT31 Z st fk e1 kk n cap k c14 kv kz r7 r10 r11 r15 ad a14 fL hs hl hz)) hall 14 238 rfl
    have q239 : fr.tmps.getD 239 undef = .int .i64 (kk : Int) := finO (V := (VT31 Z st fk e1 kk n cap k c14 kv kz r7 r10 r11 r15 ad a14 fL hs hl hz)) hall 15 239 rfl
    have q240 : fr.tmps.getD 240 undef = .int .u64 (kk : Int) := finO (V := (VT31 Z st fk e1 kk n cap k c14 kv kz r7 r10 r11 r15 ad a14 fL hs hl hz)) hall 16 240 rfl
    have q241 : fr.tmps.getD 241 undef = .int .u64 (fk : Int) := finO (V := (VT31 Z st fk e1 kk n cap k c14 kv kz r7 r10 r11 r15 ad a14 fL hs hl hz)) hall 17 241 rfl
    have q242 : fr.tmps.getD 242 undef = .slice ad n cap := finO (V := (VT31 Z st fk e1 kk n cap k c14 kv kz r7 r10 r11 r15 ad a14 fL hs hl hz)) hall 18 242 rfl
    have q243 : fr.tmps.getD 243 undef = .int .i64 (kk : Int) := finO (V := (VT31 Z st fk e1 kk n cap k c14 kv kz r7 r10 r11 r15 ad a14 fL hs hl hz)) hall 19 243 rfl
    have q244 : fr.tmps.getD 244 undef = .slice (cutA ad cap kk) (n - kk) (cap - kk) := finO (V := (VT31 Z st fk e1 kk n cap k c14 kv kz r7 r10 r11 r15 ad a14 fL hs hl hz)) hall 20 244 rfl
    obtain ⟨r245, s245, q245, n245⟩ := finO (V := (VT31 Z st fk e1 kk n cap k c14 kv kz r7 r10 r11 r15 ad a14 fL hs hl hz)) hall 21 245 rfl
    have m246 := finO (V := (VT31 Z st fk e1 kk n cap k c14 kv kz r7 r10 r11 r15 ad a14 fL hs hl hz)) hall 22 246 rfl
    obtain ⟨r246, q246⟩ : ∃ r, fr.tmps.getD 246 undef = r := ⟨_, rfl⟩
    rw [q246] at m246
    have q247 : fr.tmps.getD 247 undef = .bool true := finO (V := (VT31 Z st fk e1 kk n cap k c14 kv kz r7 r10 r11 r15 ad a14 fL hs hl hz)) hall 23 247 rfl
    have q248 : fr.tmps.getD 248 undef = .bool true := finO (V := (VT31 Z st fk e1 kk n cap k c14 kv kz r7 r10 r11 r15 ad a14 fL hs hl hz)) hall 24 248 rfl
    have q249 : fr.tmps.getD 249 undef = .bool true := finO (V := (VT31 Z st fk e1 kk n cap k c14 kv kz r7 r10 r11 r15 ad a14 fL hs hl hz)) hall 25 249 rfl
    have q250 : fr.tmps.getD 250 undef = .bool true := finO (V := (VT31 Z st fk e1 kk n cap k c14 kv kz r7 r10 r11 r15 ad a14 fL hs hl hz)) hall 26 250 rfl
    have q251 : fr.tmps.getD 251 undef = .bool true := finO (V := (VT31 Z st fk e1 kk n cap k c14 kv kz r7 r10 r11 r15 ad a14 fL hs hl hz)) hall 27 251 rfl
    have q2 : fr.tmps.getD 2 undef = .bool true := finO (V := (VT31 Z st fk e1 kk n cap k c14 kv kz r7 r10 r11 r15 ad a14 fL hs hl hz)) hall 28 2 rfl
    obtain rfl := frame_eq hsame [(224, .pointer (some ⟨r11, 0, none⟩)), (225, r225), (226, .pointer (some ⟨r15, 0, none⟩)), (227, r227), (228, .bool true), (229, .bool true), (230, .pointer (some ⟨r7, 0, none⟩)), (231, r231), (232, .slice a14 k c14), (233, .bool true), (234, .bool true), (235, .bool true), (236, .pointer (some ⟨r10, 0, none⟩)), (237, r237), (238, .int .u64 (st : Int)), (239, .int .i64 (kk : Int)), (240, .int .u64 (kk : Int)), (241, .int .u64 (fk : Int)), (242, .slice ad n cap), (243, .int .i64 (kk : Int)), (244, .slice (cutA ad cap kk) (n - kk) (cap - kk)), (245, .pointer (some ⟨r245, 0, none⟩)), (246, r246), (247, .bool true), (248, .bool true), (249, .bool true), (250, .bool true), (251, .bool true), (2, .bool true)] (by kernel_rfl) ⟨q224, q225, q226, q227, q228, q229, q230, q231, q232, q233, q234, q235, q236, q237, q238, q239, q240, q241, q242, q243, q244, q245, q246, q247, q248, q249, q250, q251, q2, trivial⟩
    clear hall hsame q224 q225 q226 q227 q228 q229 q230 q231 q232 q233 q234 q235 q236 q237 q238 q239 q240 q241 q242 q243 q244 q245 q246 q247 q248 q249 q250 q251 q2
    simp only [List.foldl, List.setIfInBounds_toArray, List.set_cons_succ, List.set_cons_zero]
    have hb := hsn.below (B := W21.heap.size) (fun _ _ => rfl) (Nat.le_refl _)
    clear hsn m225 m227 m231 m237 m246 n245
    go_wp2_with fail
    go_ret
    exact ⟨rfl, KW21.out.trans (hb.mono KW21.out.size)⟩
end Go.Proofs.YtgbafjmklefoiaaDoor
