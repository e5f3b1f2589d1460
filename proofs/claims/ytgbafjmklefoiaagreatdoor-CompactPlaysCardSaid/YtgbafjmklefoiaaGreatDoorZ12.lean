/- (*compact.Range).push. -/
import Derived.Test.YtgbafjmklefoiaaGreatDoorZ11
import Derived.WalkMore
import Derived.Lib.SmallJoins
import Derived.Deep.DeepCutAuto
import Derived.Deep.CutBlock
namespace Go.Proofs.YtgbafjmklefoiaaGreatDoor
set_option maxRecDepth 100000
open Go.RowKit
def rowLenR (r : Nat) (w : World) : Nat := match w.heap[r]? with | some (.cells cs _ _) => lenOf (cs.getD 3 undef) | _ => 0
/-- what the round keeps -/
structure PuR (base N r B E : Nat) (a : Option Addr) (c K : Nat) (l : List (Nat × Nat × List UInt8)) (q : Nat × Nat × List UInt8) (w0 w : World) : Prop where
  hr : w.heap[r]? = some (.cells #[.bool true, .int .u64 (B : Int), .int .u64 (E : Int), .slice a K c] 65 (0, 0))
  ho : w.ownsRow base 105 34 (.slice a K c) K (ncells (l.take K))
  hn : w.heap[N]? = some (.cells (ncell q) 105 (0, 0))
  kp : Keep (RaS r (.slice a l.length c)) w0 w
theorem PuR.below {base N r B E : Nat} {a : Option Addr} {c K : Nat} {l : List (Nat × Nat × List UInt8)} {q : Nat × Nat × List UInt8} {w0 w w' : World} (h : PuR base N r B E a c K l q w0 w) (k : Below w.heap.size w w') : PuR base N r B E a c K l q w0 w' :=
  ⟨(k.block _ (Array.getElem?_eq_some_iff.1 h.hr).1).trans h.hr, own_keep h.ho (Keep.of_below k (fun _ => False)) (fun _ _ h => h), (k.block _ (Array.getElem?_eq_some_iff.1 h.hn).1).trans h.hn, h.kp.trans (Keep.of_below k (RaS r (.slice a l.length c))) (fun _ _ h => h)⟩
def StR (own : Nat → Option Nat) (w : World) (r B E base m : Nat) (xs : List Value) (v0 : Value) (B2 : Nat) : Prop :=
  ∃ s', OutV own w r 10 65 #[.bool true, .int .u64 (B : Int), .int .u64 (E : Int), s'] ∧ GrownW own w 7 base 105 34 s' m xs v0 B2
theorem pushR_stop {l : List (Nat × Nat × List UInt8)} {x n : Nat × Nat × List UInt8} (h : joinC x n = false) : pushR (x :: l) n = n :: x :: l := by rw [pushR, h]; rfl
theorem pushR_go {l : List (Nat × Nat × List UInt8)} {x n : Nat × Nat × List UInt8} (h : joinC x n = true) : pushR (x :: l) n = pushR l (upC1 x n) := by rw [pushR, h]; rfl
theorem take_rev {l : List (Nat × Nat × List UInt8)} {K : Nat} (h : K < l.length) : (l.take (K + 1)).reverse = l[K] :: (l.take K).reverse := by
  rw [List.take_succ_eq_append_getElem h, List.reverse_append, List.reverse_singleton]; rfl
theorem nss_ofC {w : World} {base K c : Nat} {a : Option Addr} {l : List (Nat × Nat × List UInt8)} (h : w.ownsRow base 105 34 (.slice a K c) K (ncells (l.take K))) (h32 : ∀ x ∈ l, x.2.2.length = 32) (hK : K ≤ l.length) : Nss w (.slice a K c) (l.take K) :=
  nss_own h (fun x hx => h32 x (List.mem_of_mem_take hx)) (by rw [List.length_take]; omega)
def VB2 (r _N K g0 cc : Nat) (x : Nat × Nat × List UInt8) (oi : Nat) (v : Value) (own : Nat → Option Nat) (w : World) : Prop :=
  match oi with
  | 0 => v = .pointer (some ⟨r, 0, none⟩)
  | 1 => v = .pointer (some ⟨r, 0, none⟩)
  | 2 => v = .pointer (some ⟨r, 3, none⟩)
  | 3 => v = .slice (some ⟨g0, 0, none⟩) (K + 1) cc
  | 4 => v = .pointer (some ⟨r, 0, none⟩)
  | 5 => v = .pointer (some ⟨r, 0, none⟩)
  | 6 => v = .pointer (some ⟨r, 3, none⟩)
  | 7 => v = .slice (some ⟨g0, 0, none⟩) (K + 1) cc
  | 8 => v = .int .i64 ((K + 1 : Nat) : Int)
  | 9 => v = .int .i64 (K : Int)
  | 10 => v = .pointer (some ⟨g0, K * 34, none⟩)
  | 11 => v = .agg (ncell x)
  | 12 => AllocV own w v 13 105 34
  | 13 => StoredV own w 13 105 (ncell x)
  | _ => True
def VB2mk : Nat → Option Nat := fun j => match j with | 13 => some 12 | _ => none
theorem VB2_mono (r N K g0 cc : Nat) (x : Nat × Nat × List UInt8) (oi oj : Nat) (v : Value) (own : Nat → Option Nat) (w : World) (own' : Nat → Option Nat) (w' : World) (hij : oi ≠ oj)   (h : VB2 r N K g0 cc x oj v own w) (r1 : Rel VB2mk oi own w own' w') : VB2 r N K g0 cc x oj v own' w' := by
  unfold VB2 at h ⊢
  split at h
  · exact h
  · exact h
  · exact h
  · exact h
  · exact h
  · exact h
  · exact h
  · exact h
  · exact h
  · exact h
  · exact h
  · exact h
  · exact h.stable r1 rfl hij
  · exact h.stable r1 hij
  · trivial

def VB3 (_r _N g4 L1 I1 : Nat) (K1 : Bool) (x : Nat × Nat × List UInt8) (oi : Nat) (v : Value) (own : Nat → Option Nat) (w : World) : Prop :=
  match oi with
  | 0 => v = .pointer (some ⟨g4, 0, none⟩)
  | 1 => v = .agg #[.int .u8 (x.1 : Int), .int .u64 (x.2.1 : Int)]
  | 2 => v = .tuple #[.agg #[.int .u8 (L1 : Int), .int .u64 (I1 : Int)], .bool K1]
  | 3 => v = .tuple #[.agg #[.int .u8 (L1 : Int), .int .u64 (I1 : Int)], .bool K1]
  | 4 => v = .agg #[.int .u8 (L1 : Int), .int .u64 (I1 : Int)]
  | 5 => v = .bool K1
  | 6 => AllocV own w v 7 103 2
  | 7 => StoredV own w 7 103 #[.int .u8 (L1 : Int), .int .u64 (I1 : Int)]
  | 8 => v = .bool K1
  | _ => True
def VB3mk : Nat → Option Nat := fun j => match j with | 7 => some 6 | _ => none
theorem VB3_mono (r N g4 L1 I1 : Nat) (K1 : Bool) (x : Nat × Nat × List UInt8) (oi oj : Nat) (v : Value) (own : Nat → Option Nat) (w : World) (own' : Nat → Option Nat) (w' : World) (hij : oi ≠ oj)   (h : VB3 r N g4 L1 I1 K1 x oj v own w) (r1 : Rel VB3mk oi own w own' w') : VB3 r N g4 L1 I1 K1 x oj v own' w' := by
  unfold VB3 at h ⊢
  split at h
  · exact h
  · exact h
  · exact h
  · exact h
  · exact h
  · exact h
  · exact h.stable r1 rfl hij
  · exact h.stable r1 hij
  · exact h
  · trivial

def VB4 (_r N _g4 L2 I2 : Nat) (K2 : Bool) (q : Nat × Nat × List UInt8) (oi : Nat) (v : Value) (own : Nat → Option Nat) (w : World) : Prop :=
  match oi with
  | 0 => v = .pointer (some ⟨N, 0, none⟩)
  | 1 => v = .agg #[.int .u8 (q.1 : Int), .int .u64 (q.2.1 : Int)]
  | 2 => v = .tuple #[.agg #[.int .u8 (L2 : Int), .int .u64 (I2 : Int)], .bool K2]
  | 3 => v = .tuple #[.agg #[.int .u8 (L2 : Int), .int .u64 (I2 : Int)], .bool K2]
  | 4 => v = .agg #[.int .u8 (L2 : Int), .int .u64 (I2 : Int)]
  | 5 => v = .bool K2
  | 6 => AllocV own w v 7 103 2
  | 7 => StoredV own w 7 103 #[.int .u8 (L2 : Int), .int .u64 (I2 : Int)]
  | 8 => v = .bool K2
  | _ => True
def VB4mk : Nat → Option Nat := fun j => match j with | 7 => some 6 | _ => none
theorem VB4_mono (r N g4 L2 I2 : Nat) (K2 : Bool) (q : Nat × Nat × List UInt8) (oi oj : Nat) (v : Value) (own : Nat → Option Nat) (w : World) (own' : Nat → Option Nat) (w' : World) (hij : oi ≠ oj)   (h : VB4 r N g4 L2 I2 K2 q oj v own w) (r1 : Rel VB4mk oi own w own' w') : VB4 r N g4 L2 I2 K2 q oj v own' w' := by
  unfold VB4 at h ⊢
  split at h
  · exact h
  · exact h
  · exact h
  · exact h
  · exact h
  · exact h
  · exact h.stable r1 rfl hij
  · exact h.stable r1 hij
  · exact h
  · trivial

def VB7 (_g5 _g7 L1 I1 L2 I2 : Nat) (Q : Bool) (oi : Nat) (v : Value) (_own : Nat → Option Nat) (_w : World) : Prop :=
  match oi with
  | 0 => v = .agg #[.int .u8 (L1 : Int), .int .u64 (I1 : Int)]
  | 1 => v = .agg #[.int .u8 (L2 : Int), .int .u64 (I2 : Int)]
  | 2 => v = .bool (!Q)
  | 3 => v = .bool (!Q)
  | _ => True
def VB7mk : Nat → Option Nat := fun _ => none
theorem VB7_mono (g5 g7 L1 I1 L2 I2 : Nat) (Q : Bool) (oi oj : Nat) (v : Value) (own : Nat → Option Nat) (w : World) (own' : Nat → Option Nat) (w' : World) (hij : oi ≠ oj)   (h : VB7 g5 g7 L1 I1 L2 I2 Q oj v own w) (_r : Rel VB7mk oi own w own' w') : VB7 g5 g7 L1 I1 L2 I2 Q oj v own' w' := by
  unfold VB7 at h ⊢
  split at h
  · exact h
  · exact h
  · exact h
  · exact h
  · trivial

def VB8 (_r N g4 _g5 L1 I1 : Nat) (z : List UInt8) (x q : Nat × Nat × List UInt8) (oi : Nat) (v : Value) (own : Nat → Option Nat) (w : World) : Prop :=
  match oi with
  | 0 => v = .agg #[.int .u8 (L1 : Int), .int .u64 (I1 : Int)]
  | 1 => v = .pointer (some ⟨g4, 2, none⟩)
  | 2 => v = .agg (ocells (x.2.2))
  | 3 => v = .pointer (some ⟨N, 2, none⟩)
  | 4 => v = .agg (ocells (q.2.2))
  | 5 => v = .agg (ocells (z))
  | 6 => v = .agg (ncell (L1, I1, z))
  | 7 => OutV own w (N) 7 105 (ncell (L1, I1, z))
  | _ => True
def VB8mk : Nat → Option Nat := fun _ => none
theorem VB8_mono (r N g4 g5 L1 I1 : Nat) (z : List UInt8) (x q : Nat × Nat × List UInt8) (oi oj : Nat) (v : Value) (own : Nat → Option Nat) (w : World) (own' : Nat → Option Nat) (w' : World) (hij : oi ≠ oj)   (h : VB8 r N g4 g5 L1 I1 z x q oj v own w) (r1 : Rel VB8mk oi own w own' w') : VB8 r N g4 g5 L1 I1 z x q oj v own' w' := by
  unfold VB8 at h ⊢
  split at h
  · exact h
  · exact h
  · exact h
  · exact h
  · exact h
  · exact h
  · exact h
  · exact h.stable r1 hij
  · trivial

def VB9 (r _N K g0 cc B E : Nat) (oi : Nat) (v : Value) (own : Nat → Option Nat) (w : World) : Prop :=
  match oi with
  | 0 => v = .pointer (some ⟨r, 0, none⟩)
  | 1 => v = .pointer (some ⟨r, 0, none⟩)
  | 2 => v = .pointer (some ⟨r, 0, none⟩)
  | 3 => v = .pointer (some ⟨r, 3, none⟩)
  | 4 => v = .slice (some ⟨g0, 0, none⟩) (K + 1) cc
  | 5 => v = .pointer (some ⟨r, 0, none⟩)
  | 6 => v = .pointer (some ⟨r, 0, none⟩)
  | 7 => v = .pointer (some ⟨r, 3, none⟩)
  | 8 => v = .slice (some ⟨g0, 0, none⟩) (K + 1) cc
  | 9 => v = .int .i64 ((K + 1 : Nat) : Int)
  | 10 => v = .int .i64 (K : Int)
  | 11 => v = .slice (some ⟨g0, 0, none⟩) K cc
  | 12 => v = .pointer (some ⟨r, 0, none⟩)
  | 13 => v = .pointer (some ⟨r, 3, none⟩)
  | 14 => OutV own w (r) 14 65 #[.bool true, .int .u64 (B : Int), .int .u64 (E : Int), .slice (some ⟨g0, 0, none⟩) K cc]
  | _ => True
def VB9mk : Nat → Option Nat := fun _ => none
theorem VB9_mono (r N K g0 cc B E : Nat) (oi oj : Nat) (v : Value) (own : Nat → Option Nat) (w : World) (own' : Nat → Option Nat) (w' : World) (hij : oi ≠ oj)   (h : VB9 r N K g0 cc B E oj v own w) (r1 : Rel VB9mk oi own w own' w') : VB9 r N K g0 cc B E oj v own' w' := by
  unfold VB9 at h ⊢
  split at h
  · exact h
  · exact h
  · exact h
  · exact h
  · exact h
  · exact h
  · exact h
  · exact h
  · exact h
  · exact h
  · exact h
  · exact h
  · exact h
  · exact h
  · exact h.stable r1 hij
  · trivial

def VB10 (a : Option Addr) (r _N K cc B E base B2 : Nat) (l : List (Nat × Nat × List UInt8)) (q : Nat × Nat × List UInt8) (oi : Nat) (v : Value) (own : Nat → Option Nat) (w : World) : Prop :=
  match oi with
  | 0 => v = .pointer (some ⟨r, 0, none⟩)
  | 1 => v = .pointer (some ⟨r, 0, none⟩)
  | 2 => v = .pointer (some ⟨r, 0, none⟩)
  | 3 => v = .pointer (some ⟨r, 3, none⟩)
  | 4 => v = .slice a K cc
  | 5 => v = .agg (ncell q)
  | 6 => BuiltV own w v 1 105 (ncell q)
  | 7 => GrownW own w 7 base 105 34 v (K + 1) (ncells (l.take K) ++ (ncell q).toList) (.slice a K cc) B2
  | 8 => v = .pointer (some ⟨r, 0, none⟩)
  | 9 => v = .pointer (some ⟨r, 3, none⟩)
  | 10 => StR own w r B E base (K + 1) (ncells (l.take K) ++ (ncell q).toList) (.slice a K cc) B2
  | _ => True
def VB10mk : Nat → Option Nat := fun _ => none
theorem VB10_mono (a : Option Addr) (r N K cc B E base B2 : Nat) (l : List (Nat × Nat × List UInt8)) (q : Nat × Nat × List UInt8) (oi oj : Nat) (v : Value) (own : Nat → Option Nat) (w : World) (own' : Nat → Option Nat) (w' : World) (hij : oi ≠ oj)  (hx0 : oi = 7 → oj = 10 → False) (h : VB10 a r N K cc B E base B2 l q oj v own w) (r1 : Rel VB10mk oi own w own' w') : VB10 a r N K cc B E base B2 l q oj v own' w' := by
  unfold VB10 at h ⊢
  split at h
  · exact h
  · exact h
  · exact h
  · exact h
  · exact h
  · exact h
  · exact h.stable r1
  · exact h.stable r1 hij
  · exact h
  · exact h
  · obtain ⟨s1, h1, h2⟩ := h; exact ⟨s1, h1.stable r1 hij, h2.stable r1 (fun e => hx0 e rfl)⟩
  · trivial

theorem ncells_appendC (l l' : List (Nat × Nat × List UInt8)) : ncells (l ++ l') = ncells l ++ ncells l' := by unfold ncells; rw [List.flatMap_append]
set_option maxHeartbeats 4000000 in
theorem push_any (base : Nat) (w : World) (r B E : Nat) (l : List (Nat × Nat × List UInt8)) (s : Value) (hR : RaP base w r B E l s) (p : Nat × Nat × List UInt8) (hp : p.2.2.length = 32) (hT : ∀ u, Below base w u → TabS u) (hbase : base ≤ w.heap.size) (hm : l.length ≤ 1000) :
    Calls Tryz.prog 89 #[.pointer (some ⟨r, 0, none⟩), .agg (ncell p)] w fun e w' => e = .returned (.tuple #[]) ∧ ∃ s', RaP base w' r B E (pushN l p) s' ∧ Keep (RaS r s) w w' ∧ ∀ k, s'.ownBlock = some k → s.ownBlock = some k ∨ w.heap.size ≤ k := by
  obtain ⟨a, cc, hs, hc1, hc2, hc3⟩ := own_shape hR.own
  subst hs
  have kb := er_al (Below.refl w.heap.size w) (.cells (ncell p) 105)
  have xN := heap_alloc_new w (.cells (ncell p) 105)
  have h2 := hR.below kb
  have hrl := hR.lt r (.inl rfl)
  have hge := fun k (hk : RaS r (.slice a l.length cc) k) => hR.ge k hk
  go_enter Tryz.func89, Tryz.ntmps89
  go_upto_region 1 with (fail)
  change Code.wp _ _ _ _ (w.alloc (.cells (ncell p) 105))
  generalize w.alloc (.cells (ncell p) 105) = W at kb xN h2 ⊢
  obtain ⟨N, hN⟩ : ∃ N, N = w.heap.size := ⟨_, rfl⟩
  rw [← hN] at xN hrl ⊢
  have P0 := Bx.mk (show PuR base N r B E a cc l.length l p w W from ⟨h2.hb, by rw [List.take_length]; exact h2.own, xN, Keep.of_below kb (RaS r (.slice a l.length cc))⟩)
  have KB := Bx.mk kb; have H32 := Bx.mk hR.h32; have RL := Bx.mk hrl; have GE := Bx.mk hge; have HT := Bx.mk hT; have HB := Bx.mk hbase; have LM := Bx.mk hm; have HN := Bx.mk hN; have NIL := Bx.mk hc3; have LC := Bx.mk hc1; have CM := Bx.mk hc2
  have HP := Bx.mk hp
  have TW : Bx (∀ u, Keep (RaS r (.slice a l.length cc)) w u → TabS u) := ⟨fun u hu => HT.out u (hu.below HB.out (fun k hk => GE.out k hk))⟩
  have NW : Bx (∀ k, k < w.heap.size → k ≠ N) := ⟨fun k hk => by omega⟩
  have RNE : Bx (r ≠ N) := ⟨by omega⟩
  have NWO : Bx (∀ j, (Value.slice a l.length cc).ownBlock = some j → j ≠ N) := ⟨fun j hj => by have := hR.lt j (.inr hj); omega⟩
  clear kb xN h2 hrl hge hT hbase hm hN hc1 hc2 hc3 hR hp
  go_step3
  go_wp2_with fail
  go_step3
  go_upto_block 0 with (fail)
  go_cut [] (fun wc => ∃ K q, K ≤ l.length ∧ PuR base N r B E a cc K l q w wc ∧ pushN l p = l.take K ++ [q] ∧ q.2.2.length = 32)
  case first =>
    go_wp2_with fail
    go_loopw [39] (fun _ wr => ∃ K q, K ≤ l.length ∧ PuR base N r B E a cc K l q w wr ∧ pushR (l.take K).reverse q = pushR l.reverse p ∧ q.2.2.length = 32) (fun _ wr => rowLenR r wr)
    case atStart => exact ⟨l.length, p, Nat.le_refl _, P0.out, by rw [List.take_length], HP.out⟩
    case round =>
      obtain ⟨K0, q, hK, hP, hpu, hq⟩ := hrel
      have PR := Bx.mk hP; have QL := Bx.mk hq; have HPU := Bx.mk hpu
      have c3 := er_cellAt hP.hr 3 _ rfl
      clear hP hpu hq P0
      by_cases hpos : 0 < K0
      · obtain ⟨K, rfl⟩ : ∃ K, K0 = K + 1 := ⟨K0 - 1, by omega⟩
        have KL := Bx.mk (show K < l.length by omega); have K10 := Bx.mk (show K < 1000 by have := LM.out; omega)
        obtain ⟨x, hx⟩ : ∃ x, x = l[K]'(KL.out) := ⟨_, rfl⟩
        have XL := Bx.mk (show x.2.2.length = 32 by rw [hx]; exact H32.out _ (List.getElem_mem _))
        have HX : Bx (∀ h : K < l.length, l[K] = x) := ⟨fun _ => hx.symm⟩
        obtain ⟨g0, c', e⟩ : ∃ g c', Value.slice a (K + 1) cc = .slice (some ⟨g, 0, none⟩) (K + 1) c' := by
          rcases Go.Joins.ownsRow_forms PR.out.ho with ⟨-, h0⟩ | h1
          · omega
          · exact h1
        cases e
        have hns := nss_ofC PR.out.ho H32.out (by have := KL.out; omega)
        obtain ⟨-, -, -, Bq, oq, e, hbq, hrq, -⟩ := hns.at K (by rw [List.length_take]; have := KL.out; omega)
        cases e
        rw [Nat.zero_add, List.getElem_take, HX.out] at hrq
        have RX := Bx.mk (show wr.rangeAt g0 (K * 34) (ncell x).toList ∧ g0 < wr.heap.size from ⟨hrq, hbq⟩)
        clear hx hns hrq hbq hK hpos
        have f1 : (0 : Int) < ((K + 1 : Nat) : Int) := by omega
        go_upto_region 2 with (fail)
        clear c3 f1
        refine wp_region_own8 (n := 78) VB2mk (fun _ => none) (VB2 r N K g0 cc x) (by kernel_rfl) (by kernel_rfl) rfl (fun _ _ => rfl) (fun _ _ _ _ h => by cases h) ?_ ?_ ?_
        · exact fun oi oj v own w own' w' hij _ h r1 => VB2_mono r N K g0 cc x oi oj v own w own' w' hij h r1
        · intro oi o hi f u own hsame hsn hfr hlate hkeep8 hdep
          have hkeep := hkeep8 _ (.inl rfl)
          have hb6 := hsn.below (B := wr.heap.size) (fun _ _ => rfl) (Nat.le_refl _)
          match oi, hi with
          | 0, hi =>
            cases (show some _ = some o from hi)
            have e0 : f.tmps.getD 0 undef = .pointer (some ⟨r, 0, none⟩) := hsame.slot 0 (fun i o h => invB2_not 0 (by kernel_rfl) h)
            clear hdep hsame hi hlate hfr hkeep
            exact .inl ⟨wanted_none rfl, showsO_move hsn rfl _ rfl e0⟩
          | 1, hi =>
            cases (show some _ = some o from hi)
            have e15 : (f.tmps.getD 15 undef) = .pointer (some ⟨r, 0, none⟩) := depO (V := (VB2 r N K g0 cc x)) hdep 0 15 (by kernel_rfl) (by kernel_rfl)
            clear hdep hsame hi hlate hfr hkeep
            exact .inl ⟨wanted_none rfl, showsO_pure hsn rfl (.pointer (some ⟨r, 0, none⟩)) (by simp only [execOp, Act.eval]; go_simp) rfl⟩
          | 2, hi =>
            cases (show some _ = some o from hi)
            have e16 : (f.tmps.getD 16 undef) = .pointer (some ⟨r, 0, none⟩) := depO (V := (VB2 r N K g0 cc x)) hdep 1 16 (by kernel_rfl) (by kernel_rfl)
            clear hdep hsame hi hlate hfr hkeep
            exact .inl ⟨wanted_none rfl, showsO_pure hsn rfl (.pointer (some ⟨r, 3, none⟩)) (by simp only [execOp, Act.eval]; go_simp) rfl⟩
          | 3, hi =>
            cases (show some _ = some o from hi)
            have e17 : (f.tmps.getD 17 undef) = .pointer (some ⟨r, 3, none⟩) := depO (V := (VB2 r N K g0 cc x)) hdep 2 17 (by kernel_rfl) (by kernel_rfl)
            clear hdep hsame hi hlate hfr hkeep
            have c18 := er_cellAt ((hb6.block _ (Array.getElem?_eq_some_iff.1 PR.out.hr).1).trans PR.out.hr) 3 _ rfl
            exact .inl ⟨wanted_none rfl, showsO_pure hsn rfl (.slice (some ⟨g0, 0, none⟩) (K + 1) cc) (by simp only [execOp, Act.eval]; go_simp) rfl⟩
          | 4, hi =>
            cases (show some _ = some o from hi)
            have e0 : f.tmps.getD 0 undef = .pointer (some ⟨r, 0, none⟩) := hsame.slot 0 (fun i o h => invB2_not 0 (by kernel_rfl) h)
            clear hdep hsame hi hlate hfr hkeep
            exact .inl ⟨wanted_none rfl, showsO_move hsn rfl _ rfl e0⟩
          | 5, hi =>
            cases (show some _ = some o from hi)
            have e19 : (f.tmps.getD 19 undef) = .pointer (some ⟨r, 0, none⟩) := depO (V := (VB2 r N K g0 cc x)) hdep 4 19 (by kernel_rfl) (by kernel_rfl)
            clear hdep hsame hi hlate hfr hkeep
            exact .inl ⟨wanted_none rfl, showsO_pure hsn rfl (.pointer (some ⟨r, 0, none⟩)) (by simp only [execOp, Act.eval]; go_simp) rfl⟩
          | 6, hi =>
            cases (show some _ = some o from hi)
            have e20 : (f.tmps.getD 20 undef) = .pointer (some ⟨r, 0, none⟩) := depO (V := (VB2 r N K g0 cc x)) hdep 5 20 (by kernel_rfl) (by kernel_rfl)
            clear hdep hsame hi hlate hfr hkeep
            exact .inl ⟨wanted_none rfl, showsO_pure hsn rfl (.pointer (some ⟨r, 3, none⟩)) (by simp only [execOp, Act.eval]; go_simp) rfl⟩
          | 7, hi =>
            cases (show some _ = some o from hi)
            have e21 : (f.tmps.getD 21 undef) = .pointer (some ⟨r, 3, none⟩) := depO (V := (VB2 r N K g0 cc x)) hdep 6 21 (by kernel_rfl) (by kernel_rfl)
            clear hdep hsame hi hlate hfr hkeep
            have c22 := er_cellAt ((hb6.block _ (Array.getElem?_eq_some_iff.1 PR.out.hr).1).trans PR.out.hr) 3 _ rfl
            exact .inl ⟨wanted_none rfl, showsO_pure hsn rfl (.slice (some ⟨g0, 0, none⟩) (K + 1) cc) (by simp only [execOp, Act.eval]; go_simp) rfl⟩
          | 8, hi =>
            cases (show some _ = some o from hi)
            have e22 : (f.tmps.getD 22 undef) = .slice (some ⟨g0, 0, none⟩) (K + 1) cc := depO (V := (VB2 r N K g0 cc x)) hdep 7 22 (by kernel_rfl) (by kernel_rfl)
            clear hdep hsame hi hlate hfr hkeep
            exact .inl ⟨wanted_none rfl, showsO_pure hsn rfl (.int .i64 ((K + 1 : Nat) : Int)) (by simp only [execOp, Act.eval]; go_simp) rfl⟩
          | 9, hi =>
            cases (show some _ = some o from hi)
            have e23 : (f.tmps.getD 23 undef) = .int .i64 ((K + 1 : Nat) : Int) := depO (V := (VB2 r N K g0 cc x)) hdep 8 23 (by kernel_rfl) (by kernel_rfl)
            clear hdep hsame hi hlate hfr hkeep
            have h1 := K10.out
            exact .inl ⟨wanted_none rfl, showsO_pure hsn rfl (.int .i64 (K : Int)) (by simp only [execOp, Act.eval]; go_simp; simp [IntKind.wrap, IntKind.bits, IntKind.signed]; omega) rfl⟩
          | 10, hi =>
            cases (show some _ = some o from hi)
            have e18 : (f.tmps.getD 18 undef) = .slice (some ⟨g0, 0, none⟩) (K + 1) cc := depO (V := (VB2 r N K g0 cc x)) hdep 3 18 (by kernel_rfl) (by kernel_rfl)
            have e24 : (f.tmps.getD 24 undef) = .int .i64 (K : Int) := depO (V := (VB2 r N K g0 cc x)) hdep 9 24 (by kernel_rfl) (by kernel_rfl)
            clear hdep hsame hi hlate hfr hkeep
            have f2 : ¬ (K : Int) + 1 ≤ (K : Int) := by omega
            have f3 : (K : Int) < (K : Int) + 1 := by omega
            exact .inl ⟨wanted_none rfl, showsO_pure hsn rfl (.pointer (some ⟨g0, K * 34, none⟩)) (by simp only [execOp, Act.eval]; go_simp) rfl⟩
          | 11, hi =>
            cases (show some _ = some o from hi)
            have e25 : (f.tmps.getD 25 undef) = .pointer (some ⟨g0, K * 34, none⟩) := depO (V := (VB2 r N K g0 cc x)) hdep 10 25 (by kernel_rfl) (by kernel_rfl)
            clear hdep hsame hi hlate hfr hkeep
            exact .inl ⟨wanted_none rfl, showsO_mid hsn rfl 105 (.tmp 25) rfl g0 (K * 34) e25 (ncell x).toList (rangeAt_below RX.out.1 RX.out.2 hb6) underNd rfl (nszB XL.out) rfl⟩
          | 12, hi =>
            cases (show some _ = some o from hi)
            clear hdep hsame hi hlate hkeep
            exact .inl ⟨wanted_none rfl, showsO_alloc hsn hfr rfl zerosN 105 13 rfl (by simp only [execOp, Act.eval]; go_simp <;> rfl) (fun h => h)⟩
          | 13, hi =>
            cases (show some _ = some o from hi)
            have e4 : AllocV own u (f.tmps.getD 4 undef) 13 105 34 := depO (V := (VB2 r N K g0 cc x)) hdep 12 4 (by kernel_rfl) (by kernel_rfl)
            have e26 : (f.tmps.getD 26 undef) = .agg (ncell x) := depO (V := (VB2 r N K g0 cc x)) hdep 11 26 (by kernel_rfl) (by kernel_rfl)
            clear hdep hsame hi hlate hfr hkeep
            exact .inl ⟨wanted_none rfl, showsO_store_alloc hsn rfl 105 (.tmp 4) (.tmp 26) rfl e4 (ncell x) e26 (nszA XL.out) (by rw [ncell_size XL.out]) (ncell_one _) (fun _ h => h)⟩
          | n + 14, hi => exact absurd hi (by simp)
        intro fr u2 own hsame hsn hall
        have q15 : fr.tmps.getD 15 undef = .pointer (some ⟨r, 0, none⟩) := finO (V := (VB2 r N K g0 cc x)) hall 0 15 rfl
        have q16 : fr.tmps.getD 16 undef = .pointer (some ⟨r, 0, none⟩) := finO (V := (VB2 r N K g0 cc x)) hall 1 16 rfl
        have q17 : fr.tmps.getD 17 undef = .pointer (some ⟨r, 3, none⟩) := finO (V := (VB2 r N K g0 cc x)) hall 2 17 rfl
        have q18 : fr.tmps.getD 18 undef = .slice (some ⟨g0, 0, none⟩) (K + 1) cc := finO (V := (VB2 r N K g0 cc x)) hall 3 18 rfl
        have q19 : fr.tmps.getD 19 undef = .pointer (some ⟨r, 0, none⟩) := finO (V := (VB2 r N K g0 cc x)) hall 4 19 rfl
        have q20 : fr.tmps.getD 20 undef = .pointer (some ⟨r, 0, none⟩) := finO (V := (VB2 r N K g0 cc x)) hall 5 20 rfl
        have q21 : fr.tmps.getD 21 undef = .pointer (some ⟨r, 3, none⟩) := finO (V := (VB2 r N K g0 cc x)) hall 6 21 rfl
        have q22 : fr.tmps.getD 22 undef = .slice (some ⟨g0, 0, none⟩) (K + 1) cc := finO (V := (VB2 r N K g0 cc x)) hall 7 22 rfl
        have q23 : fr.tmps.getD 23 undef = .int .i64 ((K + 1 : Nat) : Int) := finO (V := (VB2 r N K g0 cc x)) hall 8 23 rfl
        have q24 : fr.tmps.getD 24 undef = .int .i64 (K : Int) := finO (V := (VB2 r N K g0 cc x)) hall 9 24 rfl
        have q25 : fr.tmps.getD 25 undef = .pointer (some ⟨g0, K * 34, none⟩) := finO (V := (VB2 r N K g0 cc x)) hall 10 25 rfl
        have q26 : fr.tmps.getD 26 undef = .agg (ncell x) := finO (V := (VB2 r N K g0 cc x)) hall 11 26 rfl
        obtain ⟨g4, q4, o4, m4⟩ := AllocV.stored (finO (V := (VB2 r N K g0 cc x)) hall 12 4 rfl) (finN (V := (VB2 r N K g0 cc x)) hall 13 rfl)
        obtain rfl := frame_eq hsame [(15, .pointer (some ⟨r, 0, none⟩)), (16, .pointer (some ⟨r, 0, none⟩)), (17, .pointer (some ⟨r, 3, none⟩)), (18, .slice (some ⟨g0, 0, none⟩) (K + 1) cc), (19, .pointer (some ⟨r, 0, none⟩)), (20, .pointer (some ⟨r, 0, none⟩)), (21, .pointer (some ⟨r, 3, none⟩)), (22, .slice (some ⟨g0, 0, none⟩) (K + 1) cc), (23, .int .i64 ((K + 1 : Nat) : Int)), (24, .int .i64 (K : Int)), (25, .pointer (some ⟨g0, K * 34, none⟩)), (26, .agg (ncell x)), (4, .pointer (some ⟨g4, 0, none⟩))] (by kernel_rfl) ⟨q15, q16, q17, q18, q19, q20, q21, q22, q23, q24, q25, q26, q4, trivial⟩
        clear hall hsame q15 q16 q17 q18 q19 q20 q21 q22 q23 q24 q25 q26 q4
        simp only [List.foldl, List.setIfInBounds_toArray, List.set_cons_succ, List.set_cons_zero]
        have hb := hsn.below (B := wr.heap.size) (fun _ _ => rfl) (Nat.le_refl _)
        have P2 := Bx.mk (PR.out.below hb); have M4 := Bx.mk m4
        have G4NE : Bx (g4 ≠ N) := ⟨fun e => by have h1 := hsn.ge o4 (fun _ _ h => by cases h); have h2 := (Array.getElem?_eq_some_iff.1 PR.out.hn).1; omega⟩
        clear hb hsn m4 o4
        obtain ⟨L1, hL1⟩ : ∃ L1, L1 = upL x.1 x.2.1 := ⟨_, rfl⟩
        obtain ⟨I1, hI1⟩ : ∃ I1, I1 = upI x.1 x.2.1 := ⟨_, rfl⟩
        obtain ⟨K1, hK1⟩ : ∃ K1, K1 = upK x.1 x.2.1 := ⟨_, rfl⟩
        obtain ⟨L2, hL2⟩ : ∃ L2, L2 = upL q.1 q.2.1 := ⟨_, rfl⟩
        obtain ⟨I2, hI2⟩ : ∃ I2, I2 = upI q.1 q.2.1 := ⟨_, rfl⟩
        obtain ⟨K2, hK2⟩ : ∃ K2, K2 = upK q.1 q.2.1 := ⟨_, rfl⟩
        have CP1 : Bx (∀ u, Calls Tryz.prog 131 #[.agg #[.int .u8 (x.1 : Int), .int .u64 (x.2.1 : Int)]] u fun e w' => e = .returned (.tuple #[.agg #[.int .u8 (L1 : Int), .int .u64 (I1 : Int)], .bool K1]) ∧ Below u.heap.size u w') := ⟨fun u => by
          have c := parent_any u x.1 x.2.1
          rw [← hL1, ← hI1, ← hK1] at c
          exact c⟩
        have CP2 : Bx (∀ u, Calls Tryz.prog 131 #[.agg #[.int .u8 (q.1 : Int), .int .u64 (q.2.1 : Int)]] u fun e w' => e = .returned (.tuple #[.agg #[.int .u8 (L2 : Int), .int .u64 (I2 : Int)], .bool K2]) ∧ Below u.heap.size u w') := ⟨fun u => by
          have c := parent_any u q.1 q.2.1
          rw [← hL2, ← hI2, ← hK2] at c
          exact c⟩
        have HJ : Bx (joinC x q = (K1 && K2 && decide (L1 = L2 ∧ I1 = I2))) := ⟨by unfold joinC; rw [← hL1, ← hI1, ← hK1, ← hL2, ← hI2, ← hK2]⟩
        have HU : Bx (upC1 x q = (L1, I1, nd x.2.2 q.2.2)) := ⟨by unfold upC1; rw [← hL1, ← hI1]⟩
        clear hL1 hI1 hK1 hL2 hI2 hK2
        go_upto_region 3 with (fail)
        refine wp_region_seq8 (n := 78) VB3mk (fun _ => none) (VB3 r N g4 L1 I1 K1 x) (by kernel_rfl) rfl (fun _ _ => rfl) (fun _ _ _ _ h => by cases h) ?_ ?_ ?_
        · exact fun oi oj v own w own' w' hij h r1 => VB3_mono r N g4 L1 I1 K1 x oi oj v own w own' w' (by omega)  h r1
        · intro oi o hi f u own hsame hsn hfr hlate hkeep8 hdep
          have hkeep := hkeep8 _ (Nat.le_refl _)
          have hb6 := hsn.below (B := u2.heap.size) (fun _ _ => rfl) (Nat.le_refl _)
          match oi, hi with
          | 0, hi =>
            cases (show some _ = some o from hi)
            have e4 : f.tmps.getD 4 undef = .pointer (some ⟨g4, 0, none⟩) := hlate 4 (earlyS (by kernel_rfl))
            clear hdep hsame hi hlate hfr hkeep
            exact .inl ⟨wanted_none rfl, showsO_pure hsn rfl (.pointer (some ⟨g4, 0, none⟩)) (by simp only [execOp, Act.eval]; go_simp) rfl⟩
          | 1, hi =>
            cases (show some _ = some o from hi)
            have e28 : (f.tmps.getD 28 undef) = .pointer (some ⟨g4, 0, none⟩) := depS (V := (VB3 r N g4 L1 I1 K1 x)) hdep 0 28 (by decide) (by kernel_rfl)
            clear hdep hsame hi hlate hfr hkeep
            have hrg := (node_cells ((hb6.block _ (Array.getElem?_eq_some_iff.1 M4.out).1).trans M4.out)).1
            exact .inl ⟨wanted_none rfl, showsO_mid hsn rfl 103 (.tmp 28) rfl g4 (0) e28 [.int .u8 (x.1 : Int), .int .u64 (x.2.1 : Int)] hrg Tryz.underlying103 rfl sizeC rfl⟩
          | 2, hi =>
            cases (show some _ = some o from hi)
            have e29 : (f.tmps.getD 29 undef) = .agg #[.int .u8 (x.1 : Int), .int .u64 (x.2.1 : Int)] := depS (V := (VB3 r N g4 L1 I1 K1 x)) hdep 1 29 (by decide) (by kernel_rfl)
            clear hdep hsame hi hlate hfr hkeep
            have c := CP1.out u
            exact .inl ⟨wanted_none rfl, showsO_call1 hsn rfl 131 #[.agg #[.int .u8 (x.1 : Int), .int .u64 (x.2.1 : Int)]] (by simp only [execOp, Act.eval]; go_simp) (c) (fun _ => rfl)⟩
          | 3, hi =>
            cases (show some _ = some o from hi)
            have e30 : (f.tmps.getD 30 undef) = .tuple #[.agg #[.int .u8 (L1 : Int), .int .u64 (I1 : Int)], .bool K1] := depS (V := (VB3 r N g4 L1 I1 K1 x)) hdep 2 30 (by decide) (by kernel_rfl)
            clear hdep hsame hi hlate hfr hkeep
            exact .inl ⟨wanted_none rfl, showsO_move hsn rfl _ rfl e30⟩
          | 4, hi =>
            cases (show some _ = some o from hi)
            have e27 : (f.tmps.getD 27 undef) = .tuple #[.agg #[.int .u8 (L1 : Int), .int .u64 (I1 : Int)], .bool K1] := depS (V := (VB3 r N g4 L1 I1 K1 x)) hdep 3 27 (by decide) (by kernel_rfl)
            clear hdep hsame hi hlate hfr hkeep
            exact .inl ⟨wanted_none rfl, showsO_pure hsn rfl (.agg #[.int .u8 (L1 : Int), .int .u64 (I1 : Int)]) (by simp only [execOp, Act.eval]; go_simp) rfl⟩
          | 5, hi =>
            cases (show some _ = some o from hi)
            have e27 : (f.tmps.getD 27 undef) = .tuple #[.agg #[.int .u8 (L1 : Int), .int .u64 (I1 : Int)], .bool K1] := depS (V := (VB3 r N g4 L1 I1 K1 x)) hdep 3 27 (by decide) (by kernel_rfl)
            clear hdep hsame hi hlate hfr hkeep
            exact .inl ⟨wanted_none rfl, showsO_pure hsn rfl (.bool K1) (by simp only [execOp, Act.eval]; go_simp) rfl⟩
          | 6, hi =>
            cases (show some _ = some o from hi)
            clear hdep hsame hi hlate hkeep
            exact .inl ⟨wanted_none rfl, showsO_alloc hsn hfr rfl #[.int .u8 0, .int .u64 0] 103 7 rfl (by simp only [execOp, Act.eval]; go_simp <;> rfl) (fun h => h)⟩
          | 7, hi =>
            cases (show some _ = some o from hi)
            have e5 : AllocV own u (f.tmps.getD 5 undef) 7 103 2 := depS (V := (VB3 r N g4 L1 I1 K1 x)) hdep 6 5 (by decide) (by kernel_rfl)
            have e31 : (f.tmps.getD 31 undef) = .agg #[.int .u8 (L1 : Int), .int .u64 (I1 : Int)] := depS (V := (VB3 r N g4 L1 I1 K1 x)) hdep 4 31 (by decide) (by kernel_rfl)
            clear hdep hsame hi hlate hfr hkeep
            exact .inl ⟨wanted_none rfl, showsO_store_alloc hsn rfl 103 (.tmp 5) (.tmp 31) rfl e5 #[.int .u8 (L1 : Int), .int .u64 (I1 : Int)] e31 sizeC rfl (by simp [Value.oneCell']) (fun _ h => h)⟩
          | 8, hi =>
            cases (show some _ = some o from hi)
            have e32 : (f.tmps.getD 32 undef) = .bool K1 := depS (V := (VB3 r N g4 L1 I1 K1 x)) hdep 5 32 (by decide) (by kernel_rfl)
            clear hdep hsame hi hlate hfr hkeep
            exact .inl ⟨wanted_none rfl, showsO_assign hsn rfl _ rfl e32⟩
          | n + 9, hi => exact absurd hi (by simp)
        intro fr u3 own hsame hsn hall
        have q28 : fr.tmps.getD 28 undef = .pointer (some ⟨g4, 0, none⟩) := finO (V := (VB3 r N g4 L1 I1 K1 x)) hall 0 28 rfl
        have q29 : fr.tmps.getD 29 undef = .agg #[.int .u8 (x.1 : Int), .int .u64 (x.2.1 : Int)] := finO (V := (VB3 r N g4 L1 I1 K1 x)) hall 1 29 rfl
        have q30 : fr.tmps.getD 30 undef = .tuple #[.agg #[.int .u8 (L1 : Int), .int .u64 (I1 : Int)], .bool K1] := finO (V := (VB3 r N g4 L1 I1 K1 x)) hall 2 30 rfl
        have q27 : fr.tmps.getD 27 undef = .tuple #[.agg #[.int .u8 (L1 : Int), .int .u64 (I1 : Int)], .bool K1] := finO (V := (VB3 r N g4 L1 I1 K1 x)) hall 3 27 rfl
        have q31 : fr.tmps.getD 31 undef = .agg #[.int .u8 (L1 : Int), .int .u64 (I1 : Int)] := finO (V := (VB3 r N g4 L1 I1 K1 x)) hall 4 31 rfl
        have q32 : fr.tmps.getD 32 undef = .bool K1 := finO (V := (VB3 r N g4 L1 I1 K1 x)) hall 5 32 rfl
        obtain ⟨g5, q5, o5, m5⟩ := AllocV.stored (finO (V := (VB3 r N g4 L1 I1 K1 x)) hall 6 5 rfl) (finN (V := (VB3 r N g4 L1 I1 K1 x)) hall 7 rfl)
        have q6 : fr.tmps.getD 6 undef = .bool K1 := finO (V := (VB3 r N g4 L1 I1 K1 x)) hall 8 6 rfl
        obtain rfl := frame_eq hsame [(28, .pointer (some ⟨g4, 0, none⟩)), (29, .agg #[.int .u8 (x.1 : Int), .int .u64 (x.2.1 : Int)]), (30, .tuple #[.agg #[.int .u8 (L1 : Int), .int .u64 (I1 : Int)], .bool K1]), (27, .tuple #[.agg #[.int .u8 (L1 : Int), .int .u64 (I1 : Int)], .bool K1]), (31, .agg #[.int .u8 (L1 : Int), .int .u64 (I1 : Int)]), (32, .bool K1), (5, .pointer (some ⟨g5, 0, none⟩)), (6, .bool K1)] (by kernel_rfl) ⟨q28, q29, q30, q27, q31, q32, q5, q6, trivial⟩
        clear hall hsame q28 q29 q30 q27 q31 q32 q5 q6
        simp only [List.foldl, List.setIfInBounds_toArray, List.set_cons_succ, List.set_cons_zero]
        have hb := hsn.below (B := u2.heap.size) (fun _ _ => rfl) (Nat.le_refl _)
        have P3 := Bx.mk (P2.out.below hb); have M43 := Bx.mk ((hb.block _ (Array.getElem?_eq_some_iff.1 M4.out).1).trans M4.out); have M5 := Bx.mk m5
        clear hb hsn m5 o5 CP1 P2 M4
        go_upto_region 4 with (fail)
        refine wp_region_seq8 (n := 78) VB4mk (fun _ => none) (VB4 r N g4 L2 I2 K2 q) (by kernel_rfl) rfl (fun _ _ => rfl) (fun _ _ _ _ h => by cases h) ?_ ?_ ?_
        · exact fun oi oj v own w own' w' hij h r1 => VB4_mono r N g4 L2 I2 K2 q oi oj v own w own' w' (by omega)  h r1
        · intro oi o hi f u own hsame hsn hfr hlate hkeep8 hdep
          have hkeep := hkeep8 _ (Nat.le_refl _)
          have hb6 := hsn.below (B := u3.heap.size) (fun _ _ => rfl) (Nat.le_refl _)
          match oi, hi with
          | 0, hi =>
            cases (show some _ = some o from hi)
            have e3 : f.tmps.getD 3 undef = .pointer (some ⟨N, 0, none⟩) := hlate 3 (earlyS (by kernel_rfl))
            clear hdep hsame hi hlate hfr hkeep
            exact .inl ⟨wanted_none rfl, showsO_pure hsn rfl (.pointer (some ⟨N, 0, none⟩)) (by simp only [execOp, Act.eval]; go_simp) rfl⟩
          | 1, hi =>
            cases (show some _ = some o from hi)
            have e34 : (f.tmps.getD 34 undef) = .pointer (some ⟨N, 0, none⟩) := depS (V := (VB4 r N g4 L2 I2 K2 q)) hdep 0 34 (by decide) (by kernel_rfl)
            clear hdep hsame hi hlate hfr hkeep
            have hrg := (node_cells ((hb6.block _ (Array.getElem?_eq_some_iff.1 P3.out.hn).1).trans P3.out.hn)).1
            exact .inl ⟨wanted_none rfl, showsO_mid hsn rfl 103 (.tmp 34) rfl N (0) e34 [.int .u8 (q.1 : Int), .int .u64 (q.2.1 : Int)] hrg Tryz.underlying103 rfl sizeC rfl⟩
          | 2, hi =>
            cases (show some _ = some o from hi)
            have e35 : (f.tmps.getD 35 undef) = .agg #[.int .u8 (q.1 : Int), .int .u64 (q.2.1 : Int)] := depS (V := (VB4 r N g4 L2 I2 K2 q)) hdep 1 35 (by decide) (by kernel_rfl)
            clear hdep hsame hi hlate hfr hkeep
            have c := CP2.out u
            exact .inl ⟨wanted_none rfl, showsO_call1 hsn rfl 131 #[.agg #[.int .u8 (q.1 : Int), .int .u64 (q.2.1 : Int)]] (by simp only [execOp, Act.eval]; go_simp) (c) (fun _ => rfl)⟩
          | 3, hi =>
            cases (show some _ = some o from hi)
            have e36 : (f.tmps.getD 36 undef) = .tuple #[.agg #[.int .u8 (L2 : Int), .int .u64 (I2 : Int)], .bool K2] := depS (V := (VB4 r N g4 L2 I2 K2 q)) hdep 2 36 (by decide) (by kernel_rfl)
            clear hdep hsame hi hlate hfr hkeep
            exact .inl ⟨wanted_none rfl, showsO_move hsn rfl _ rfl e36⟩
          | 4, hi =>
            cases (show some _ = some o from hi)
            have e33 : (f.tmps.getD 33 undef) = .tuple #[.agg #[.int .u8 (L2 : Int), .int .u64 (I2 : Int)], .bool K2] := depS (V := (VB4 r N g4 L2 I2 K2 q)) hdep 3 33 (by decide) (by kernel_rfl)
            clear hdep hsame hi hlate hfr hkeep
            exact .inl ⟨wanted_none rfl, showsO_pure hsn rfl (.agg #[.int .u8 (L2 : Int), .int .u64 (I2 : Int)]) (by simp only [execOp, Act.eval]; go_simp) rfl⟩
          | 5, hi =>
            cases (show some _ = some o from hi)
            have e33 : (f.tmps.getD 33 undef) = .tuple #[.agg #[.int .u8 (L2 : Int), .int .u64 (I2 : Int)], .bool K2] := depS (V := (VB4 r N g4 L2 I2 K2 q)) hdep 3 33 (by decide) (by kernel_rfl)
            clear hdep hsame hi hlate hfr hkeep
            exact .inl ⟨wanted_none rfl, showsO_pure hsn rfl (.bool K2) (by simp only [execOp, Act.eval]; go_simp) rfl⟩
          | 6, hi =>
            cases (show some _ = some o from hi)
            clear hdep hsame hi hlate hkeep
            exact .inl ⟨wanted_none rfl, showsO_alloc hsn hfr rfl #[.int .u8 0, .int .u64 0] 103 7 rfl (by simp only [execOp, Act.eval]; go_simp <;> rfl) (fun h => h)⟩
          | 7, hi =>
            cases (show some _ = some o from hi)
            have e7 : AllocV own u (f.tmps.getD 7 undef) 7 103 2 := depS (V := (VB4 r N g4 L2 I2 K2 q)) hdep 6 7 (by decide) (by kernel_rfl)
            have e37 : (f.tmps.getD 37 undef) = .agg #[.int .u8 (L2 : Int), .int .u64 (I2 : Int)] := depS (V := (VB4 r N g4 L2 I2 K2 q)) hdep 4 37 (by decide) (by kernel_rfl)
            clear hdep hsame hi hlate hfr hkeep
            exact .inl ⟨wanted_none rfl, showsO_store_alloc hsn rfl 103 (.tmp 7) (.tmp 37) rfl e7 #[.int .u8 (L2 : Int), .int .u64 (I2 : Int)] e37 sizeC rfl (by simp [Value.oneCell']) (fun _ h => h)⟩
          | 8, hi =>
            cases (show some _ = some o from hi)
            have e38 : (f.tmps.getD 38 undef) = .bool K2 := depS (V := (VB4 r N g4 L2 I2 K2 q)) hdep 5 38 (by decide) (by kernel_rfl)
            clear hdep hsame hi hlate hfr hkeep
            exact .inl ⟨wanted_none rfl, showsO_assign hsn rfl _ rfl e38⟩
          | n + 9, hi => exact absurd hi (by simp)
        intro fr u4 own hsame hsn hall
        have q34 : fr.tmps.getD 34 undef = .pointer (some ⟨N, 0, none⟩) := finO (V := (VB4 r N g4 L2 I2 K2 q)) hall 0 34 rfl
        have q35 : fr.tmps.getD 35 undef = .agg #[.int .u8 (q.1 : Int), .int .u64 (q.2.1 : Int)] := finO (V := (VB4 r N g4 L2 I2 K2 q)) hall 1 35 rfl
        have q36 : fr.tmps.getD 36 undef = .tuple #[.agg #[.int .u8 (L2 : Int), .int .u64 (I2 : Int)], .bool K2] := finO (V := (VB4 r N g4 L2 I2 K2 q)) hall 2 36 rfl
        have q33 : fr.tmps.getD 33 undef = .tuple #[.agg #[.int .u8 (L2 : Int), .int .u64 (I2 : Int)], .bool K2] := finO (V := (VB4 r N g4 L2 I2 K2 q)) hall 3 33 rfl
        have q37 : fr.tmps.getD 37 undef = .agg #[.int .u8 (L2 : Int), .int .u64 (I2 : Int)] := finO (V := (VB4 r N g4 L2 I2 K2 q)) hall 4 37 rfl
        have q38 : fr.tmps.getD 38 undef = .bool K2 := finO (V := (VB4 r N g4 L2 I2 K2 q)) hall 5 38 rfl
        obtain ⟨g7, q7, o7, m7⟩ := AllocV.stored (finO (V := (VB4 r N g4 L2 I2 K2 q)) hall 6 7 rfl) (finN (V := (VB4 r N g4 L2 I2 K2 q)) hall 7 rfl)
        have q8 : fr.tmps.getD 8 undef = .bool K2 := finO (V := (VB4 r N g4 L2 I2 K2 q)) hall 8 8 rfl
        obtain rfl := frame_eq hsame [(34, .pointer (some ⟨N, 0, none⟩)), (35, .agg #[.int .u8 (q.1 : Int), .int .u64 (q.2.1 : Int)]), (36, .tuple #[.agg #[.int .u8 (L2 : Int), .int .u64 (I2 : Int)], .bool K2]), (33, .tuple #[.agg #[.int .u8 (L2 : Int), .int .u64 (I2 : Int)], .bool K2]), (37, .agg #[.int .u8 (L2 : Int), .int .u64 (I2 : Int)]), (38, .bool K2), (7, .pointer (some ⟨g7, 0, none⟩)), (8, .bool K2)] (by kernel_rfl) ⟨q34, q35, q36, q33, q37, q38, q7, q8, trivial⟩
        clear hall hsame q34 q35 q36 q33 q37 q38 q7 q8
        simp only [List.foldl, List.setIfInBounds_toArray, List.set_cons_succ, List.set_cons_zero]
        have hb := hsn.below (B := u3.heap.size) (fun _ _ => rfl) (Nat.le_refl _)
        have P4 := Bx.mk (P3.out.below hb); have M44 := Bx.mk ((hb.block _ (Array.getElem?_eq_some_iff.1 M43.out).1).trans M43.out); have M54 := Bx.mk ((hb.block _ (Array.getElem?_eq_some_iff.1 M5.out).1).trans M5.out); have M7 := Bx.mk m7
        clear hb hsn m7 o7 CP2 P3 M43 M5
        cases K1
        · go_wp2_with fail
          go_meet
          case rel => exact ⟨K + 1, q, KL.out, P4.out, by
            have h1 := HPU.out
            rw [take_rev KL.out, HX.out, pushR_stop (by rw [HJ.out]; first | rfl | simp)] at h1
            unfold pushN
            rw [← h1, List.take_succ_eq_append_getElem KL.out, HX.out]
            simp, QL.out⟩
        · cases K2
          · go_wp2_with fail
            go_meet
            case rel => exact ⟨K + 1, q, KL.out, P4.out, by
              have h1 := HPU.out
              rw [take_rev KL.out, HX.out, pushR_stop (by rw [HJ.out]; first | rfl | simp)] at h1
              unfold pushN
              rw [← h1, List.take_succ_eq_append_getElem KL.out, HX.out]
              simp, QL.out⟩
          · go_upto_region 7 with (fail)
            obtain ⟨Q, hQ⟩ : ∃ Q : Bool, Q = decide (L1 = L2 ∧ I1 = I2) := ⟨_, rfl⟩
            have HQ := Bx.mk hQ
            have HJ2 : Bx (joinC x q = Q) := ⟨by rw [HJ.out, hQ]; rfl⟩
            clear hQ
            refine wp_region_seq8 (n := 78) VB7mk (fun _ => none) (VB7 g5 g7 L1 I1 L2 I2 Q) (by kernel_rfl) rfl (fun _ _ => rfl) (fun j i hj _ => by cases hj) ?_ ?_ ?_
            · exact fun oi oj v own w own' w' hij h r => VB7_mono g5 g7 L1 I1 L2 I2 Q oi oj v own w own' w' (by omega)  h r
            · intro oi o hi f u own hsame hsn hfr hlate hkeep8 hdep
              have hkeep := hkeep8 _ (Nat.le_refl _)
              have hb6 := hsn.below (B := u4.heap.size) (fun _ _ => rfl) (Nat.le_refl _)
              match oi, hi with
              | 0, hi =>
                cases (show some _ = some o from hi)
                have e5 : f.tmps.getD 5 undef = .pointer (some ⟨g5, 0, none⟩) := hlate 5 (earlyS (by kernel_rfl))
                clear hdep hsame hi hlate hfr hkeep
                exact .inl ⟨wanted_none rfl, showsO_row hsn rfl 103 (.tmp 5) rfl g5 e5 #[.int .u8 (L1 : Int), .int .u64 (I1 : Int)] ((hb6.block _ (Array.getElem?_eq_some_iff.1 M54.out).1).trans M54.out) Tryz.underlying103 rfl sizeC rfl⟩
              | 1, hi =>
                cases (show some _ = some o from hi)
                have e7 : f.tmps.getD 7 undef = .pointer (some ⟨g7, 0, none⟩) := hlate 7 (earlyS (by kernel_rfl))
                clear hdep hsame hi hlate hfr hkeep
                exact .inl ⟨wanted_none rfl, showsO_row hsn rfl 103 (.tmp 7) rfl g7 e7 #[.int .u8 (L2 : Int), .int .u64 (I2 : Int)] ((hb6.block _ (Array.getElem?_eq_some_iff.1 M7.out).1).trans M7.out) Tryz.underlying103 rfl sizeC rfl⟩
              | 2, hi =>
                cases (show some _ = some o from hi)
                have e44 : (f.tmps.getD 44 undef) = .agg #[.int .u8 (L1 : Int), .int .u64 (I1 : Int)] := depS (V := (VB7 g5 g7 L1 I1 L2 I2 Q)) hdep 0 44 (by decide) (by kernel_rfl)
                have e45 : (f.tmps.getD 45 undef) = .agg #[.int .u8 (L2 : Int), .int .u64 (I2 : Int)] := depS (V := (VB7 g5 g7 L1 I1 L2 I2 Q)) hdep 1 45 (by decide) (by kernel_rfl)
                clear hdep hsame hi hlate hfr hkeep
                exact .inl ⟨wanted_none rfl, showsO_pure hsn rfl (.bool (!Q)) (by simp only [execOp, Act.eval]; go_simp; rw [HQ.out]; by_cases h1 : L1 = L2 <;> by_cases h2 : I1 = I2 <;> simp [h1, h2] <;> intros <;> omega) rfl⟩
              | 3, hi =>
                cases (show some _ = some o from hi)
                have e46 : (f.tmps.getD 46 undef) = .bool (!Q) := depS (V := (VB7 g5 g7 L1 I1 L2 I2 Q)) hdep 2 46 (by decide) (by kernel_rfl)
                clear hdep hsame hi hlate hfr hkeep
                exact .inl ⟨wanted_none rfl, showsO_assign hsn rfl _ rfl e46⟩
              | n + 4, hi => exact absurd hi (by simp)
            intro fr u5 own hsame hsn hall
            have q44 : fr.tmps.getD 44 undef = .agg #[.int .u8 (L1 : Int), .int .u64 (I1 : Int)] := finO (V := (VB7 g5 g7 L1 I1 L2 I2 Q)) hall 0 44 rfl
            have q45 : fr.tmps.getD 45 undef = .agg #[.int .u8 (L2 : Int), .int .u64 (I2 : Int)] := finO (V := (VB7 g5 g7 L1 I1 L2 I2 Q)) hall 1 45 rfl
            have q46 : fr.tmps.getD 46 undef = .bool (!Q) := finO (V := (VB7 g5 g7 L1 I1 L2 I2 Q)) hall 2 46 rfl
            have q39 : fr.tmps.getD 39 undef = .bool (!Q) := finO (V := (VB7 g5 g7 L1 I1 L2 I2 Q)) hall 3 39 rfl
            obtain rfl := frame_eq hsame [(44, .agg #[.int .u8 (L1 : Int), .int .u64 (I1 : Int)]), (45, .agg #[.int .u8 (L2 : Int), .int .u64 (I2 : Int)]), (46, .bool (!Q)), (39, .bool (!Q))] (by kernel_rfl) ⟨q44, q45, q46, q39, trivial⟩
            clear hall hsame q44 q45 q46 q39
            simp only [List.foldl, List.setIfInBounds_toArray, List.set_cons_succ, List.set_cons_zero]
            have hb := hsn.below (B := u4.heap.size) (fun _ _ => rfl) (Nat.le_refl _)
            have P5 := Bx.mk (P4.out.below hb); have M45 := Bx.mk ((hb.block _ (Array.getElem?_eq_some_iff.1 M44.out).1).trans M44.out); have M55 := Bx.mk ((hb.block _ (Array.getElem?_eq_some_iff.1 M54.out).1).trans M54.out)
            clear hb hsn M7 M44 M54 P4 HQ
            cases Q
            · go_wp2_with fail
              go_meet
              case rel => exact ⟨K + 1, q, KL.out, P5.out, by
                have h1 := HPU.out
                rw [take_rev KL.out, HX.out, pushR_stop HJ2.out] at h1
                unfold pushN
                rw [← h1, List.take_succ_eq_append_getElem KL.out, HX.out]
                simp, QL.out⟩
            · obtain ⟨z, hz⟩ : ∃ z, z = nd x.2.2 q.2.2 := ⟨_, rfl⟩
              have ZL := Bx.mk (show z.length = 32 by rw [hz]; exact nd_length _ _)
              have HZ := Bx.mk (show sha (1 :: (x.2.2 ++ q.2.2)) = z from hz.symm)
              have HU2 : Bx (upC1 x q = (L1, I1, z)) := ⟨by rw [HU.out, hz]⟩
              clear hz
              have CN : Bx (∀ u, Keep (RaS r (.slice (some ⟨g0, 0, none⟩) l.length cc)) w u → Calls Tryz.prog 80 #[.agg (ocells x.2.2), .agg (ocells q.2.2)] u fun e w' => e = .returned (.agg (ocells z)) ∧ Below u.heap.size u w') := ⟨fun u hu => by
                have c := node_any u x.2.2 q.2.2 XL.out QL.out (TW.out u hu)
                rwa [hv_agg, hv_agg, hv_agg, HZ.out] at c⟩
              have YN := Bx.mk P5.out.hn
              go_upto_region 8 with (fail)
              have G5N : Bx (g5 ≠ N) := ⟨by rintro rfl; have h1 := M55.out.symm.trans YN.out; simp only [Option.some.injEq, Obj.cells.injEq] at h1; exact absurd h1.2.1 (by decide)⟩
              have G4N := G4NE; have RNB := Bx.mk (fun j (hj : (Value.slice (some ⟨g0, 0, none⟩ : Option Addr) K cc).ownBlock = some j) => own_ne_blk P5.out.ho P5.out.hr (by decide) j hj)
              have ONE : Bx (∀ j, (Value.slice (some ⟨g0, 0, none⟩ : Option Addr) (K + 1) cc).ownBlock = some j → j ≠ N) := ⟨fun j hj e => NWO.out j hj e⟩
              have KC := Bx.mk (show K + 1 ≤ cc by obtain ⟨_, _, e, h1, _, _⟩ := own_shape P5.out.ho; cases e; exact h1)
              refine wp_region_own8 (n := 78) VB8mk (fun k => if k = N then some 7 else none) (VB8 r N g4 g5 L1 I1 z x q) (by kernel_rfl) (by kernel_rfl) rfl (fun k hk => if_neg (by have := (Array.getElem?_eq_some_iff.1 YN.out).1; omega)) (fun j i hj _ => by cases hj) ?_ ?_ ?_
              · exact fun oi oj v own w own' w' hij _ h r1 => VB8_mono r N g4 g5 L1 I1 z x q oi oj v own w own' w' hij h r1
              · intro oi o hi f u own hsame hsn hfr hlate hkeep8 hdep
                have hkeep := hkeep8 _ (.inl rfl)
                have hk6 := hsn.keepOne
                match oi, hi with
                | 0, hi =>
                  cases (show some _ = some o from hi)
                  have e5 : f.tmps.getD 5 undef = .pointer (some ⟨g5, 0, none⟩) := hsame.slot 5 (fun i o h => invB2_not 5 (by kernel_rfl) h)
                  clear hdep hsame hi hlate hfr hkeep
                  exact .inl ⟨wanted_none rfl, showsO_row hsn rfl 103 (.tmp 5) rfl g5 e5 #[.int .u8 (L1 : Int), .int .u64 (I1 : Int)] ((hk6.block _ (Array.getElem?_eq_some_iff.1 M55.out).1 G5N.out).trans M55.out) Tryz.underlying103 rfl sizeC rfl⟩
                | 1, hi =>
                  cases (show some _ = some o from hi)
                  have e4 : f.tmps.getD 4 undef = .pointer (some ⟨g4, 0, none⟩) := hsame.slot 4 (fun i o h => invB2_not 4 (by kernel_rfl) h)
                  clear hdep hsame hi hlate hfr hkeep
                  exact .inl ⟨wanted_none rfl, showsO_pure hsn rfl (.pointer (some ⟨g4, 2, none⟩)) (by simp only [execOp, Act.eval]; go_simp) rfl⟩
                | 2, hi =>
                  cases (show some _ = some o from hi)
                  have e48 : (f.tmps.getD 48 undef) = .pointer (some ⟨g4, 2, none⟩) := depO (V := (VB8 r N g4 g5 L1 I1 z x q)) hdep 1 48 (by kernel_rfl) (by kernel_rfl)
                  clear hdep hsame hi hlate hfr hkeep
                  have hrg := (node_cells ((hk6.block _ (Array.getElem?_eq_some_iff.1 M45.out).1 G4N.out).trans M45.out)).2
                  exact .inl ⟨wanted_none rfl, showsO_mid hsn rfl 81 (.tmp 48) rfl g4 (2) e48 (bcells x.2.2) hrg underH rfl (hszB' XL.out) rfl⟩
                | 3, hi =>
                  cases (show some _ = some o from hi)
                  have e3 : f.tmps.getD 3 undef = .pointer (some ⟨N, 0, none⟩) := hsame.slot 3 (fun i o h => invB2_not 3 (by kernel_rfl) h)
                  clear hdep hsame hi hlate hfr hkeep
                  exact .inl ⟨wanted_none rfl, showsO_pure hsn rfl (.pointer (some ⟨N, 2, none⟩)) (by simp only [execOp, Act.eval]; go_simp) rfl⟩
                | 4, hi =>
                  cases (show some _ = some o from hi)
                  have e50 : (f.tmps.getD 50 undef) = .pointer (some ⟨N, 2, none⟩) := depO (V := (VB8 r N g4 g5 L1 I1 z x q)) hdep 3 50 (by kernel_rfl) (by kernel_rfl)
                  clear hdep hsame hi hlate hfr hkeep
                  have hgu := (hkeep8 7 (.inr (by kernel_rfl)) N (Array.getElem?_eq_some_iff.1 YN.out).1 (if_pos rfl)).trans YN.out
                  have hrg := (node_cells hgu).2
                  exact .inl ⟨wanted_none rfl, showsO_mid hsn rfl 81 (.tmp 50) rfl N (2) e50 (bcells q.2.2) hrg underH rfl (hszB' QL.out) rfl⟩
                | 5, hi =>
                  cases (show some _ = some o from hi)
                  have e49 : (f.tmps.getD 49 undef) = .agg (ocells (x.2.2)) := depO (V := (VB8 r N g4 g5 L1 I1 z x q)) hdep 2 49 (by kernel_rfl) (by kernel_rfl)
                  have e51 : (f.tmps.getD 51 undef) = .agg (ocells (q.2.2)) := depO (V := (VB8 r N g4 g5 L1 I1 z x q)) hdep 4 51 (by kernel_rfl) (by kernel_rfl)
                  clear hdep hsame hi hlate hfr hkeep
                  have c := CN.out u (P5.out.kp.trans hk6 (fun k hk e => absurd e (NW.out k hk)))
                  exact .inl ⟨wanted_none rfl, showsO_call1 hsn rfl 80 #[.agg (ocells (x.2.2)), .agg (ocells (q.2.2))] (by simp only [execOp, Act.eval]; go_simp) (c) (fun _ => rfl)⟩
                | 6, hi =>
                  cases (show some _ = some o from hi)
                  have e47 : (f.tmps.getD 47 undef) = .agg #[.int .u8 (L1 : Int), .int .u64 (I1 : Int)] := depO (V := (VB8 r N g4 g5 L1 I1 z x q)) hdep 0 47 (by kernel_rfl) (by kernel_rfl)
                  have e52 : (f.tmps.getD 52 undef) = .agg (ocells (z)) := depO (V := (VB8 r N g4 g5 L1 I1 z x q)) hdep 5 52 (by kernel_rfl) (by kernel_rfl)
                  clear hdep hsame hi hlate hfr hkeep
                  exact .inl ⟨wanted_none rfl, showsO_build hsn rfl 105 #[(0, .tmp 47), (1, .tmp 52)] rfl (ncell (L1, I1, z)) (by simp only [List.map_toArray, List.map_cons, List.map_nil, Act.eval]; rw [e47, e52]; exact built_node L1 I1 z ZL.out) rfl⟩
                | 7, hi =>
                  cases (show some _ = some o from hi)
                  have e3 : f.tmps.getD 3 undef = .pointer (some ⟨N, 0, none⟩) := hsame.slot 3 (fun i o h => invB2_not 3 (by kernel_rfl) h)
                  have e53 : (f.tmps.getD 53 undef) = .agg (ncell (L1, I1, z)) := depO (V := (VB8 r N g4 g5 L1 I1 z x q)) hdep 6 53 (by kernel_rfl) (by kernel_rfl)
                  clear hdep hsame hi hlate hfr hkeep
                  exact .inl ⟨wanted_none rfl, showsO_store_out hsn rfl 105 (.tmp 3) (.tmp 53) rfl (N) e3 YN.out (if_pos rfl) (ncell (L1, I1, z)) e53 (nszA ZL.out) (by rw [ncell_size QL.out, ncell_size (show (L1, I1, z).2.2.length = 32 from ZL.out)]) (ncell_one _) (fun _ h => h)⟩
                | n + 8, hi => exact absurd hi (by simp)
              intro fr u6 own hsame hsn hall
              have q47 : fr.tmps.getD 47 undef = .agg #[.int .u8 (L1 : Int), .int .u64 (I1 : Int)] := finO (V := (VB8 r N g4 g5 L1 I1 z x q)) hall 0 47 rfl
              have q48 : fr.tmps.getD 48 undef = .pointer (some ⟨g4, 2, none⟩) := finO (V := (VB8 r N g4 g5 L1 I1 z x q)) hall 1 48 rfl
              have q49 : fr.tmps.getD 49 undef = .agg (ocells (x.2.2)) := finO (V := (VB8 r N g4 g5 L1 I1 z x q)) hall 2 49 rfl
              have q50 : fr.tmps.getD 50 undef = .pointer (some ⟨N, 2, none⟩) := finO (V := (VB8 r N g4 g5 L1 I1 z x q)) hall 3 50 rfl
              have q51 : fr.tmps.getD 51 undef = .agg (ocells (q.2.2)) := finO (V := (VB8 r N g4 g5 L1 I1 z x q)) hall 4 51 rfl
              have q52 : fr.tmps.getD 52 undef = .agg (ocells (z)) := finO (V := (VB8 r N g4 g5 L1 I1 z x q)) hall 5 52 rfl
              have q53 : fr.tmps.getD 53 undef = .agg (ncell (L1, I1, z)) := finO (V := (VB8 r N g4 g5 L1 I1 z x q)) hall 6 53 rfl
              obtain ⟨o_7, m_7⟩ : OutV own u6 (N) 7 105 (ncell (L1, I1, z)) := finN (V := (VB8 r N g4 g5 L1 I1 z x q)) hall 7 rfl
              obtain rfl := frame_eq hsame [(47, .agg #[.int .u8 (L1 : Int), .int .u64 (I1 : Int)]), (48, .pointer (some ⟨g4, 2, none⟩)), (49, .agg (ocells (x.2.2))), (50, .pointer (some ⟨N, 2, none⟩)), (51, .agg (ocells (q.2.2))), (52, .agg (ocells (z))), (53, .agg (ncell (L1, I1, z)))] (by kernel_rfl) ⟨q47, q48, q49, q50, q51, q52, q53, trivial⟩
              clear hall hsame q47 q48 q49 q50 q51 q52 q53
              simp only [List.foldl, List.setIfInBounds_toArray, List.set_cons_succ, List.set_cons_zero]
              have hk6 := hsn.keepOne
              have P6 := Bx.mk (show PuR base N r B E (some ⟨g0, 0, none⟩) cc (K + 1) l (L1, I1, z) w u6 from ⟨(hk6.block _ (Array.getElem?_eq_some_iff.1 P5.out.hr).1 RNE.out).trans P5.out.hr, own_keep P5.out.ho hk6 (fun j hj e => ONE.out j hj e), m_7, P5.out.kp.trans hk6 (fun k hk e => absurd e (NW.out k hk))⟩)
              clear hk6 m_7 o_7 hsn CN M45 M55 YN P5
              have XR := Bx.mk P6.out.hr
              go_upto_region 9 with (fail)
              refine wp_region_own8 (n := 78) VB9mk (fun k => if k = r then some 14 else none) (VB9 r N K g0 cc B E) (by kernel_rfl) (by kernel_rfl) rfl (fun k hk => if_neg (by have := (Array.getElem?_eq_some_iff.1 XR.out).1; omega)) (fun j i hj _ => by cases hj) ?_ ?_ ?_
              · exact fun oi oj v own w own' w' hij _ h r1 => VB9_mono r N K g0 cc B E oi oj v own w own' w' hij h r1
              · intro oi o hi f u own hsame hsn hfr hlate hkeep8 hdep
                have hkeep := hkeep8 _ (.inl rfl)
                match oi, hi with
                | 0, hi =>
                  cases (show some _ = some o from hi)
                  have e0 : f.tmps.getD 0 undef = .pointer (some ⟨r, 0, none⟩) := hsame.slot 0 (fun i o h => invB2_not 0 (by kernel_rfl) h)
                  clear hdep hsame hi hlate hfr hkeep
                  exact .inl ⟨wanted_none rfl, showsO_move hsn rfl _ rfl e0⟩
                | 1, hi =>
                  cases (show some _ = some o from hi)
                  have e0 : f.tmps.getD 0 undef = .pointer (some ⟨r, 0, none⟩) := hsame.slot 0 (fun i o h => invB2_not 0 (by kernel_rfl) h)
                  clear hdep hsame hi hlate hfr hkeep
                  exact .inl ⟨wanted_none rfl, showsO_move hsn rfl _ rfl e0⟩
                | 2, hi =>
                  cases (show some _ = some o from hi)
                  have e55 : (f.tmps.getD 55 undef) = .pointer (some ⟨r, 0, none⟩) := depO (V := (VB9 r N K g0 cc B E)) hdep 1 55 (by kernel_rfl) (by kernel_rfl)
                  clear hdep hsame hi hlate hfr hkeep
                  exact .inl ⟨wanted_none rfl, showsO_pure hsn rfl (.pointer (some ⟨r, 0, none⟩)) (by simp only [execOp, Act.eval]; go_simp) rfl⟩
                | 3, hi =>
                  cases (show some _ = some o from hi)
                  have e56 : (f.tmps.getD 56 undef) = .pointer (some ⟨r, 0, none⟩) := depO (V := (VB9 r N K g0 cc B E)) hdep 2 56 (by kernel_rfl) (by kernel_rfl)
                  clear hdep hsame hi hlate hfr hkeep
                  exact .inl ⟨wanted_none rfl, showsO_pure hsn rfl (.pointer (some ⟨r, 3, none⟩)) (by simp only [execOp, Act.eval]; go_simp) rfl⟩
                | 4, hi =>
                  cases (show some _ = some o from hi)
                  have e57 : (f.tmps.getD 57 undef) = .pointer (some ⟨r, 3, none⟩) := depO (V := (VB9 r N K g0 cc B E)) hdep 3 57 (by kernel_rfl) (by kernel_rfl)
                  clear hdep hsame hi hlate hfr hkeep
                  have c58 := er_cellAt ((hkeep8 14 (.inr (by kernel_rfl)) r (Array.getElem?_eq_some_iff.1 XR.out).1 (if_pos rfl)).trans XR.out) 3 _ rfl
                  exact .inl ⟨wanted_none rfl, showsO_pure hsn rfl (.slice (some ⟨g0, 0, none⟩) (K + 1) cc) (by simp only [execOp, Act.eval]; go_simp) rfl⟩
                | 5, hi =>
                  cases (show some _ = some o from hi)
                  have e0 : f.tmps.getD 0 undef = .pointer (some ⟨r, 0, none⟩) := hsame.slot 0 (fun i o h => invB2_not 0 (by kernel_rfl) h)
                  clear hdep hsame hi hlate hfr hkeep
                  exact .inl ⟨wanted_none rfl, showsO_move hsn rfl _ rfl e0⟩
                | 6, hi =>
                  cases (show some _ = some o from hi)
                  have e59 : (f.tmps.getD 59 undef) = .pointer (some ⟨r, 0, none⟩) := depO (V := (VB9 r N K g0 cc B E)) hdep 5 59 (by kernel_rfl) (by kernel_rfl)
                  clear hdep hsame hi hlate hfr hkeep
                  exact .inl ⟨wanted_none rfl, showsO_pure hsn rfl (.pointer (some ⟨r, 0, none⟩)) (by simp only [execOp, Act.eval]; go_simp) rfl⟩
                | 7, hi =>
                  cases (show some _ = some o from hi)
                  have e60 : (f.tmps.getD 60 undef) = .pointer (some ⟨r, 0, none⟩) := depO (V := (VB9 r N K g0 cc B E)) hdep 6 60 (by kernel_rfl) (by kernel_rfl)
                  clear hdep hsame hi hlate hfr hkeep
                  exact .inl ⟨wanted_none rfl, showsO_pure hsn rfl (.pointer (some ⟨r, 3, none⟩)) (by simp only [execOp, Act.eval]; go_simp) rfl⟩
                | 8, hi =>
                  cases (show some _ = some o from hi)
                  have e61 : (f.tmps.getD 61 undef) = .pointer (some ⟨r, 3, none⟩) := depO (V := (VB9 r N K g0 cc B E)) hdep 7 61 (by kernel_rfl) (by kernel_rfl)
                  clear hdep hsame hi hlate hfr hkeep
                  have c62 := er_cellAt ((hkeep8 14 (.inr (by kernel_rfl)) r (Array.getElem?_eq_some_iff.1 XR.out).1 (if_pos rfl)).trans XR.out) 3 _ rfl
                  exact .inl ⟨wanted_none rfl, showsO_pure hsn rfl (.slice (some ⟨g0, 0, none⟩) (K + 1) cc) (by simp only [execOp, Act.eval]; go_simp) rfl⟩
                | 9, hi =>
                  cases (show some _ = some o from hi)
                  have e62 : (f.tmps.getD 62 undef) = .slice (some ⟨g0, 0, none⟩) (K + 1) cc := depO (V := (VB9 r N K g0 cc B E)) hdep 8 62 (by kernel_rfl) (by kernel_rfl)
                  clear hdep hsame hi hlate hfr hkeep
                  exact .inl ⟨wanted_none rfl, showsO_pure hsn rfl (.int .i64 ((K + 1 : Nat) : Int)) (by simp only [execOp, Act.eval]; go_simp) rfl⟩
                | 10, hi =>
                  cases (show some _ = some o from hi)
                  have e63 : (f.tmps.getD 63 undef) = .int .i64 ((K + 1 : Nat) : Int) := depO (V := (VB9 r N K g0 cc B E)) hdep 9 63 (by kernel_rfl) (by kernel_rfl)
                  clear hdep hsame hi hlate hfr hkeep
                  have h1 := K10.out
                  exact .inl ⟨wanted_none rfl, showsO_pure hsn rfl (.int .i64 (K : Int)) (by simp only [execOp, Act.eval]; go_simp; simp [IntKind.wrap, IntKind.bits, IntKind.signed]; omega) rfl⟩
                | 11, hi =>
                  cases (show some _ = some o from hi)
                  have e58 : (f.tmps.getD 58 undef) = .slice (some ⟨g0, 0, none⟩) (K + 1) cc := depO (V := (VB9 r N K g0 cc B E)) hdep 4 58 (by kernel_rfl) (by kernel_rfl)
                  have e64 : (f.tmps.getD 64 undef) = .int .i64 (K : Int) := depO (V := (VB9 r N K g0 cc B E)) hdep 10 64 (by kernel_rfl) (by kernel_rfl)
                  clear hdep hsame hi hlate hfr hkeep
                  have f2 : K ≤ cc := by have := KC.out; omega
                  have f3 : (K : Int) ≤ (cc : Int) := by omega
                  exact .inl ⟨wanted_none rfl, showsO_pure hsn rfl (.slice (some ⟨g0, 0, none⟩) K cc) (by simp only [execOp, Act.eval]; go_simp) rfl⟩
                | 12, hi =>
                  cases (show some _ = some o from hi)
                  have e54 : (f.tmps.getD 54 undef) = .pointer (some ⟨r, 0, none⟩) := depO (V := (VB9 r N K g0 cc B E)) hdep 0 54 (by kernel_rfl) (by kernel_rfl)
                  clear hdep hsame hi hlate hfr hkeep
                  exact .inl ⟨wanted_none rfl, showsO_pure hsn rfl (.pointer (some ⟨r, 0, none⟩)) (by simp only [execOp, Act.eval]; go_simp) rfl⟩
                | 13, hi =>
                  cases (show some _ = some o from hi)
                  have e66 : (f.tmps.getD 66 undef) = .pointer (some ⟨r, 0, none⟩) := depO (V := (VB9 r N K g0 cc B E)) hdep 12 66 (by kernel_rfl) (by kernel_rfl)
                  clear hdep hsame hi hlate hfr hkeep
                  exact .inl ⟨wanted_none rfl, showsO_pure hsn rfl (.pointer (some ⟨r, 3, none⟩)) (by simp only [execOp, Act.eval]; go_simp) rfl⟩
                | 14, hi =>
                  cases (show some _ = some o from hi)
                  have e65 : (f.tmps.getD 65 undef) = .slice (some ⟨g0, 0, none⟩) K cc := depO (V := (VB9 r N K g0 cc B E)) hdep 11 65 (by kernel_rfl) (by kernel_rfl)
                  have e67 : (f.tmps.getD 67 undef) = .pointer (some ⟨r, 3, none⟩) := depO (V := (VB9 r N K g0 cc B E)) hdep 13 67 (by kernel_rfl) (by kernel_rfl)
                  clear hdep hsame hi hlate hfr hkeep
                  have hst := er_cellAt ((hkeep8 14 (.inl rfl) r (Array.getElem?_eq_some_iff.1 XR.out).1 (if_pos rfl)).trans XR.out) 3 _ rfl
                  have hfr2 : u.frozen? ⟨r, 3, none⟩ = false := by simp [World.frozen?, ((hkeep8 14 (.inl rfl) r (Array.getElem?_eq_some_iff.1 XR.out).1 (if_pos rfl)).trans XR.out)]
                  exact .inl ⟨wanted_none rfl, showsO_store_cell hsn hkeep8 rfl r 3 #[.bool true, .int .u64 (B : Int), .int .u64 (E : Int), .slice (some ⟨g0, 0, none⟩) (K + 1) cc] 65 XR.out (if_pos rfl) (.slice (some ⟨g0, 0, none⟩) K cc) (by simp only [execOp, Act.eval]; go_simp) (fun h => h)⟩
                | n + 15, hi => exact absurd hi (by simp)
              intro fr u7 own hsame hsn hall
              have q54 : fr.tmps.getD 54 undef = .pointer (some ⟨r, 0, none⟩) := finO (V := (VB9 r N K g0 cc B E)) hall 0 54 rfl
              have q55 : fr.tmps.getD 55 undef = .pointer (some ⟨r, 0, none⟩) := finO (V := (VB9 r N K g0 cc B E)) hall 1 55 rfl
              have q56 : fr.tmps.getD 56 undef = .pointer (some ⟨r, 0, none⟩) := finO (V := (VB9 r N K g0 cc B E)) hall 2 56 rfl
              have q57 : fr.tmps.getD 57 undef = .pointer (some ⟨r, 3, none⟩) := finO (V := (VB9 r N K g0 cc B E)) hall 3 57 rfl
              have q58 : fr.tmps.getD 58 undef = .slice (some ⟨g0, 0, none⟩) (K + 1) cc := finO (V := (VB9 r N K g0 cc B E)) hall 4 58 rfl
              have q59 : fr.tmps.getD 59 undef = .pointer (some ⟨r, 0, none⟩) := finO (V := (VB9 r N K g0 cc B E)) hall 5 59 rfl
              have q60 : fr.tmps.getD 60 undef = .pointer (some ⟨r, 0, none⟩) := finO (V := (VB9 r N K g0 cc B E)) hall 6 60 rfl
              have q61 : fr.tmps.getD 61 undef = .pointer (some ⟨r, 3, none⟩) := finO (V := (VB9 r N K g0 cc B E)) hall 7 61 rfl
              have q62 : fr.tmps.getD 62 undef = .slice (some ⟨g0, 0, none⟩) (K + 1) cc := finO (V := (VB9 r N K g0 cc B E)) hall 8 62 rfl
              have q63 : fr.tmps.getD 63 undef = .int .i64 ((K + 1 : Nat) : Int) := finO (V := (VB9 r N K g0 cc B E)) hall 9 63 rfl
              have q64 : fr.tmps.getD 64 undef = .int .i64 (K : Int) := finO (V := (VB9 r N K g0 cc B E)) hall 10 64 rfl
              have q65 : fr.tmps.getD 65 undef = .slice (some ⟨g0, 0, none⟩) K cc := finO (V := (VB9 r N K g0 cc B E)) hall 11 65 rfl
              have q66 : fr.tmps.getD 66 undef = .pointer (some ⟨r, 0, none⟩) := finO (V := (VB9 r N K g0 cc B E)) hall 12 66 rfl
              have q67 : fr.tmps.getD 67 undef = .pointer (some ⟨r, 3, none⟩) := finO (V := (VB9 r N K g0 cc B E)) hall 13 67 rfl
              obtain ⟨o_14, m_14⟩ : OutV own u7 (r) 14 65 #[.bool true, .int .u64 (B : Int), .int .u64 (E : Int), .slice (some ⟨g0, 0, none⟩) K cc] := finN (V := (VB9 r N K g0 cc B E)) hall 14 rfl
              obtain rfl := frame_eq hsame [(54, .pointer (some ⟨r, 0, none⟩)), (55, .pointer (some ⟨r, 0, none⟩)), (56, .pointer (some ⟨r, 0, none⟩)), (57, .pointer (some ⟨r, 3, none⟩)), (58, .slice (some ⟨g0, 0, none⟩) (K + 1) cc), (59, .pointer (some ⟨r, 0, none⟩)), (60, .pointer (some ⟨r, 0, none⟩)), (61, .pointer (some ⟨r, 3, none⟩)), (62, .slice (some ⟨g0, 0, none⟩) (K + 1) cc), (63, .int .i64 ((K + 1 : Nat) : Int)), (64, .int .i64 (K : Int)), (65, .slice (some ⟨g0, 0, none⟩) K cc), (66, .pointer (some ⟨r, 0, none⟩)), (67, .pointer (some ⟨r, 3, none⟩))] (by kernel_rfl) ⟨q54, q55, q56, q57, q58, q59, q60, q61, q62, q63, q64, q65, q66, q67, trivial⟩
              clear hall hsame q54 q55 q56 q57 q58 q59 q60 q61 q62 q63 q64 q65 q66 q67
              simp only [List.foldl, List.setIfInBounds_toArray, List.set_cons_succ, List.set_cons_zero]
              have hk6 := hsn.keepOne
              have hot := own_takeC P6.out.ho K (Nat.le_succ K) (fun h => by cases h)
              have P7 := Bx.mk (show PuR base N r B E (some ⟨g0, 0, none⟩) cc K l (L1, I1, z) w u7 from ⟨m_14, by
                  have := own_keep hot hk6 (fun j hj e => RNB.out j hj e)
                  have e : (ncells (l.take (K + 1))).take (K * 34) = ncells (l.take K) := by
                    rw [List.take_succ_eq_append_getElem KL.out, ncells_appendC, List.take_left' (by rw [ncells_length (fun x hx => H32.out x (List.mem_of_mem_take hx)), List.length_take]; have := KL.out; rw [Nat.min_eq_left (by omega)])]
                  rwa [e] at this, (hk6.block _ (Array.getElem?_eq_some_iff.1 P6.out.hn).1 (fun e => RNE.out e.symm)).trans P6.out.hn, P6.out.kp.trans hk6 (fun k _ e => .inl e)⟩)
              clear hk6 hot m_14 o_14 hsn XR P6
              go_wp2_with fail
              go_roundw
              case rel => exact ⟨K, (L1, I1, z), by have := KL.out; omega, P7.out, by
                have h1 := HPU.out
                rw [take_rev KL.out, HX.out, pushR_go HJ2.out, HU2.out] at h1
                exact h1, ZL.out⟩
              case measure =>
                have h1 := P7.out.hr
                have h2 := PR.out.hr
                unfold rowLenR
                simp [h1, h2, lenOf]
      · obtain rfl : K0 = 0 := by omega
        have f1 : ¬ (0 : Int) < ((0 : Nat) : Int) := by omega
        go_wp2_with fail
        go_meet
        case rel => exact ⟨0, q, Nat.zero_le _, PR.out, by
          have h1 := HPU.out
          rw [List.take_zero, List.reverse_nil, pushR] at h1
          unfold pushN
          rw [← h1]
          rfl, QL.out⟩
  case rest =>
  obtain ⟨K, q, hK, hP, hpu, hq⟩ := hcut
  have PR := Bx.mk hP; have QL := Bx.mk hq; have HPU := Bx.mk hpu; have KL := Bx.mk hK
  have XR := Bx.mk hP.hr; have OR := Bx.mk hP.ho; have YN := Bx.mk hP.hn
  clear hP hpu hq hK P0
  have RLT := Bx.mk (Array.getElem?_eq_some_iff.1 XR.out).1; have NLT := Bx.mk (Array.getElem?_eq_some_iff.1 YN.out).1
  have RNB := Bx.mk (fun j (hj : (Value.slice a K cc).ownBlock = some j) => own_ne_blk OR.out XR.out (by decide) j hj)
  have ONB : Bx (∀ j, (Value.slice a K cc).ownBlock = some j → j ≠ N) := ⟨fun j hj e => NWO.out j (by cases a <;> exact hj) e⟩
  have NON := Bx.mk (ownBG_none (b := r) (v := .slice a K cc) (i := 10) (j := 7) (k := N) (fun e => ONB.out N e rfl) (fun e => RNE.out e.symm))
  have HTP := Bx.mk (fun k' (hk' : wc.heap.size ≤ k') => ownBG_none (b := r) (v := .slice a K cc) (i := 10) (j := 7) (k := k') (fun e => by have := ownsRow_lt OR.out _ e; omega) (by have := RLT.out; omega))
  obtain ⟨i0, hi0, hz0, hz1, hz2⟩ := info_parts infoNz
  have RI := Bx.mk (And.intro hi0 (And.intro hz0 (And.intro hz1 hz2)))
  have Q1 := Bx.mk (show K + 1 ≤ maxLen by have := LM.out; have := KL.out; unfold maxLen; omega); have Q2 := Bx.mk (show (K + 1) * 48 ≤ 140737488355328 by have := LM.out; have := KL.out; omega)
  have QB := Bx.mk (show base ≤ wc.heap.size from Nat.le_trans HB.out PR.out.kp.size)
  clear hi0 hz0 hz1 hz2
  go_upto_region 10 with (fail)
  refine wp_region_own8 (n := 78) VB10mk (ownBG r (.slice a K cc) 10 7) (VB10 a r N K cc B E base (wc.heap.size) l q) (by kernel_rfl) (by kernel_rfl) rfl (fun k hk => HTP.out k hk) (fun j i hj _ => by cases hj) ?_ ?_ ?_
  · exact fun oi oj v own w own' w' hij hnd h r1 => VB10_mono a r N K cc B E base (wc.heap.size) l q oi oj v own w own' w' hij (by rintro rfl rfl; exact Bool.noConfusion (hnd.symm.trans (show depB _ 10 7 = true by kernel_rfl))) h r1
  · intro oi o hi f u own hsame hsn hfr hlate hkeep8 hdep
    have hkeep := hkeep8 _ (.inl rfl)
    match oi, hi with
    | 0, hi =>
      cases (show some _ = some o from hi)
      have e0 : f.tmps.getD 0 undef = .pointer (some ⟨r, 0, none⟩) := hsame.slot 0 (fun i o h => invB2_not 0 (by kernel_rfl) h)
      clear hdep hsame hi hlate hfr hkeep
      exact .inl ⟨wanted_none rfl, showsO_move hsn rfl _ rfl e0⟩
    | 1, hi =>
      cases (show some _ = some o from hi)
      have e0 : f.tmps.getD 0 undef = .pointer (some ⟨r, 0, none⟩) := hsame.slot 0 (fun i o h => invB2_not 0 (by kernel_rfl) h)
      clear hdep hsame hi hlate hfr hkeep
      exact .inl ⟨wanted_none rfl, showsO_move hsn rfl _ rfl e0⟩
    | 2, hi =>
      cases (show some _ = some o from hi)
      have e69 : (f.tmps.getD 69 undef) = .pointer (some ⟨r, 0, none⟩) := depO (V := (VB10 a r N K cc B E base (wc.heap.size) l q)) hdep 1 69 (by kernel_rfl) (by kernel_rfl)
      clear hdep hsame hi hlate hfr hkeep
      exact .inl ⟨wanted_none rfl, showsO_pure hsn rfl (.pointer (some ⟨r, 0, none⟩)) (by simp only [execOp, Act.eval]; go_simp) rfl⟩
    | 3, hi =>
      cases (show some _ = some o from hi)
      have e70 : (f.tmps.getD 70 undef) = .pointer (some ⟨r, 0, none⟩) := depO (V := (VB10 a r N K cc B E base (wc.heap.size) l q)) hdep 2 70 (by kernel_rfl) (by kernel_rfl)
      clear hdep hsame hi hlate hfr hkeep
      exact .inl ⟨wanted_none rfl, showsO_pure hsn rfl (.pointer (some ⟨r, 3, none⟩)) (by simp only [execOp, Act.eval]; go_simp) rfl⟩
    | 4, hi =>
      cases (show some _ = some o from hi)
      have e71 : (f.tmps.getD 71 undef) = .pointer (some ⟨r, 3, none⟩) := depO (V := (VB10 a r N K cc B E base (wc.heap.size) l q)) hdep 3 71 (by kernel_rfl) (by kernel_rfl)
      clear hdep hsame hi hlate hfr hkeep
      have c72 := er_cellAt ((hkeep8 10 (.inr (by kernel_rfl)) r RLT.out (ownBG_one _ _ _ _)).trans XR.out) 3 _ rfl
      exact .inl ⟨wanted_none rfl, showsO_pure hsn rfl (.slice a K cc) (by simp only [execOp, Act.eval]; go_simp) rfl⟩
    | 5, hi =>
      cases (show some _ = some o from hi)
      have e3 : f.tmps.getD 3 undef = .pointer (some ⟨N, 0, none⟩) := hsame.slot 3 (fun i o h => invB2_not 3 (by kernel_rfl) h)
      clear hdep hsame hi hlate hfr hkeep
      exact .inl ⟨wanted_none rfl, showsO_row hsn rfl 105 (.tmp 3) rfl N e3 (ncell q) ((hsn.keep N NLT.out NON.out).trans YN.out) underNd rfl (nszA QL.out) rfl⟩
    | 6, hi =>
      cases (show some _ = some o from hi)
      have e73 : (f.tmps.getD 73 undef) = .agg (ncell q) := depO (V := (VB10 a r N K cc B E base (wc.heap.size) l q)) hdep 5 73 (by kernel_rfl) (by kernel_rfl)
      clear hdep hsame hi hlate hfr hkeep
      exact .inl ⟨wanted_none rfl, showsO_built hsn rfl 1 105 (ncell q) (run_bs_node u (.tmp 73) rfl (ncell q) (ncell_size QL.out) e73) (fun h => h)⟩
    | 7, hi =>
      cases (show some _ = some o from hi)
      have e72 : (f.tmps.getD 72 undef) = .slice a K cc := depO (V := (VB10 a r N K cc B E base (wc.heap.size) l q)) hdep 4 72 (by kernel_rfl) (by kernel_rfl)
      have e74 : BuiltV own u (f.tmps.getD 74 undef) 1 105 (ncell q) := depO (V := (VB10 a r N K cc B E base (wc.heap.size) l q)) hdep 6 74 (by kernel_rfl) (by kernel_rfl)
      clear hdep hsame hi hlate hfr
      exact .inl ⟨wanted_none rfl, showsO_appendW hsn hkeep rfl (.tmp 72) (.tmp 74) 63 rfl base 105 i0 (.agg zerosN) 34 48 underNs RI.out.1 RI.out.2.1 RI.out.2.2.1 RI.out.2.2.2 rfl (by decide) (.slice a K cc) K (ncells (l.take K)) e72 OR.out (fun j hj => ownBG_two hj (RNB.out j hj)) e74 (by rw [ncell_size QL.out]) (ncell_one _) Q1.out Q2.out QB.out (fun _ _ _ h => h)⟩
    | 8, hi =>
      cases (show some _ = some o from hi)
      have e68 : (f.tmps.getD 68 undef) = .pointer (some ⟨r, 0, none⟩) := depO (V := (VB10 a r N K cc B E base (wc.heap.size) l q)) hdep 0 68 (by kernel_rfl) (by kernel_rfl)
      clear hdep hsame hi hlate hfr hkeep
      exact .inl ⟨wanted_none rfl, showsO_pure hsn rfl (.pointer (some ⟨r, 0, none⟩)) (by simp only [execOp, Act.eval]; go_simp) rfl⟩
    | 9, hi =>
      cases (show some _ = some o from hi)
      have e76 : (f.tmps.getD 76 undef) = .pointer (some ⟨r, 0, none⟩) := depO (V := (VB10 a r N K cc B E base (wc.heap.size) l q)) hdep 8 76 (by kernel_rfl) (by kernel_rfl)
      clear hdep hsame hi hlate hfr hkeep
      exact .inl ⟨wanted_none rfl, showsO_pure hsn rfl (.pointer (some ⟨r, 3, none⟩)) (by simp only [execOp, Act.eval]; go_simp) rfl⟩
    | 10, hi =>
      cases (show some _ = some o from hi)
      have e75 : GrownW own u 7 base 105 34 (f.tmps.getD 75 undef) (K + 1) (ncells (l.take K) ++ (ncell q).toList) (.slice a K cc) (wc.heap.size) := depO (V := (VB10 a r N K cc B E base (wc.heap.size) l q)) hdep 7 75 (by kernel_rfl) (by kernel_rfl)
      have e77 : (f.tmps.getD 77 undef) = .pointer (some ⟨r, 3, none⟩) := depO (V := (VB10 a r N K cc B E base (wc.heap.size) l q)) hdep 9 77 (by kernel_rfl) (by kernel_rfl)
      clear hdep hsame hi hlate hfr hkeep
      have hst := er_cellAt ((hkeep8 10 (.inl rfl) r RLT.out (ownBG_one _ _ _ _)).trans XR.out) 3 _ rfl
      have hfr2 : u.frozen? ⟨r, 3, none⟩ = false := by simp [World.frozen?, ((hkeep8 10 (.inl rfl) r RLT.out (ownBG_one _ _ _ _)).trans XR.out)]
      obtain ⟨a1, c1, ev, _, _, _⟩ := own_shape e75.1.1
      rw [ev] at e75
      have hob : own r = some 10 := (hsn.owns r RLT.out).trans (ownBG_one _ _ _ _)
      have HQ : ∀ {v}, GrownW own u 7 base 105 34 v (K + 1) (ncells (l.take K) ++ (ncell q).toList) (.slice a K cc) (wc.heap.size) → GrownW own u 7 base 105 34 v (K + 1) (ncells (l.take K) ++ (ncell q).toList) (.slice a K cc) (wc.heap.size) := fun h => h
      exact .inl ⟨wanted_none rfl, showsO_store_cell hsn hkeep8 rfl r 3 #[.bool true, .int .u64 (B : Int), .int .u64 (E : Int), .slice a K cc] 65 XR.out (ownBG_one _ _ _ _) (.slice a1 (K + 1) c1) (by simp only [execOp, Act.eval]; go_simp) (fun h => ⟨_, h, grownW_setCellG (HQ e75) r 3 _ hob (by decide)⟩)⟩
    | n + 11, hi => exact absurd hi (by simp)
  intro fr u2 own hsame hsn hall
  have q68 : fr.tmps.getD 68 undef = .pointer (some ⟨r, 0, none⟩) := finO (V := (VB10 a r N K cc B E base (wc.heap.size) l q)) hall 0 68 rfl
  have q69 : fr.tmps.getD 69 undef = .pointer (some ⟨r, 0, none⟩) := finO (V := (VB10 a r N K cc B E base (wc.heap.size) l q)) hall 1 69 rfl
  have q70 : fr.tmps.getD 70 undef = .pointer (some ⟨r, 0, none⟩) := finO (V := (VB10 a r N K cc B E base (wc.heap.size) l q)) hall 2 70 rfl
  have q71 : fr.tmps.getD 71 undef = .pointer (some ⟨r, 3, none⟩) := finO (V := (VB10 a r N K cc B E base (wc.heap.size) l q)) hall 3 71 rfl
  have q72 : fr.tmps.getD 72 undef = .slice a K cc := finO (V := (VB10 a r N K cc B E base (wc.heap.size) l q)) hall 4 72 rfl
  have q73 : fr.tmps.getD 73 undef = .agg (ncell q) := finO (V := (VB10 a r N K cc B E base (wc.heap.size) l q)) hall 5 73 rfl
  obtain ⟨g74, q74, o74, m74⟩ : BuiltV own u2 (fr.tmps.getD 74 undef) 1 105 (ncell q) := finO (V := (VB10 a r N K cc B E base (wc.heap.size) l q)) hall 6 74 rfl
  have m75 := finO (V := (VB10 a r N K cc B E base (wc.heap.size) l q)) hall 7 75 rfl
  obtain ⟨r75, q75⟩ : ∃ r, fr.tmps.getD 75 undef = r := ⟨_, rfl⟩
  rw [q75] at m75
  have q76 : fr.tmps.getD 76 undef = .pointer (some ⟨r, 0, none⟩) := finO (V := (VB10 a r N K cc B E base (wc.heap.size) l q)) hall 8 76 rfl
  have q77 : fr.tmps.getD 77 undef = .pointer (some ⟨r, 3, none⟩) := finO (V := (VB10 a r N K cc B E base (wc.heap.size) l q)) hall 9 77 rfl
  obtain ⟨s1, ⟨ob, hbb⟩, ⟨gw, gf⟩, gz⟩ := finN (V := (VB10 a r N K cc B E base (wc.heap.size) l q)) hall 10 rfl
  obtain rfl := frame_eq hsame [(68, .pointer (some ⟨r, 0, none⟩)), (69, .pointer (some ⟨r, 0, none⟩)), (70, .pointer (some ⟨r, 0, none⟩)), (71, .pointer (some ⟨r, 3, none⟩)), (72, .slice a K cc), (73, .agg (ncell q)), (74, .slice (some ⟨g74, 0, none⟩) 1 1), (75, r75), (76, .pointer (some ⟨r, 0, none⟩)), (77, .pointer (some ⟨r, 3, none⟩))] (by kernel_rfl) ⟨q68, q69, q70, q71, q72, q73, q74, q75, q76, q77, trivial⟩
  clear hall hsame q68 q69 q70 q71 q72 q73 q74 q75 q76 q77
  simp only [List.foldl, List.setIfInBounds_toArray, List.set_cons_succ, List.set_cons_zero]
  have kbr := hsn.keepBG
  clear hsn m75
  go_wp2_with fail
  rw [Exit.noGoto_normal]
  refine bodyPost_end (results_none rfl _ _ _) rfl ⟨rfl, s1, ⟨hbb, GE.out r (.inl rfl), ?_, pushN_mem H32.out HP.out⟩, ?_, fun j hj => ?_⟩
  · rw [HPU.out]
    have e : (l.take K ++ [q]).length = K + 1 := by rw [List.length_append, List.length_take, List.length_singleton]; have := KL.out; omega
    rw [e, ← ncells_push]
    exact gw
  · have k1 : Keep (RaS r (.slice a l.length cc)) w u2 := PR.out.kp.trans (kbr.mono (S' := RaS r (.slice a l.length cc)) (fun j _ h => h.imp id (fun e => by cases a <;> exact e))) (fun _ _ h => h)
    exact k1
  · rcases gz j hj with h1 | h1
    · exact .inl (by cases a <;> exact h1)
    · exact .inr (Nat.le_trans PR.out.kp.size h1)
end Go.Proofs.YtgbafjmklefoiaaGreatDoor
