/- cartularyref09: join. -/
import Derived.Test.YtgbafjmklefoiaaGreatDoorZ19
import Derived.Test.YtgbafjmklefoiaaGreatDoorZ20
namespace Go.Proofs.YtgbafjmklefoiaaGreatDoor
set_option maxRecDepth 100000
open Go.RowKit
/-- what the document's join leaves -/
def JoinR (base : Nat) (w : World) (d B E : Nat) (l : List (Nat × Nat × List UInt8)) (e : Ending) (w' : World) : Prop :=
  (joinF l = none ∧ e = .returned (.bool false) ∧ Below w.heap.size w w') ∨
  (∃ l', joinF l = some l' ∧ e = .returned (.bool true) ∧ ∃ s', RmP base w' d B E l' s' ∧ Keep (fun j => j = d) w w' ∧ ∀ k, s'.ownBlock = some k → w.heap.size ≤ k)
theorem take_two {l : List (Nat × Nat × List UInt8)} {i : Nat} (h : i + 1 < l.length) : l = l.take i ++ l[i] :: l[i + 1] :: l.drop (i + 2) := by
  rw [← List.drop_eq_getElem_cons h, ← List.drop_eq_getElem_cons (show i < l.length by omega), List.take_append_drop]
theorem take_snoc {l : List (Nat × Nat × List UInt8)} {i : Nat} (h : i < l.length) : l.take (i + 1) = l.take i ++ [l[i]] := by
  rw [List.take_succ_eq_append_getElem h]
theorem ncells_takeQ {l : List (Nat × Nat × List UInt8)} (h : ∀ x ∈ l, x.2.2.length = 32) (k : Nat) (hk : k ≤ l.length) : (ncells l).take (k * 34) = ncells (l.take k) := by
  have e : ncells l = ncells (l.take k) ++ ncells (l.drop k) := by rw [← ncells_appendC, List.take_append_drop]
  have hl : (ncells (l.take k)).length = k * 34 := by rw [ncells_length (fun x hx => h x (List.mem_of_mem_take hx)), List.length_take, Nat.min_eq_left hk]
  rw [e, List.take_left' hl]
theorem ncells_dropQ {l : List (Nat × Nat × List UInt8)} (h : ∀ x ∈ l, x.2.2.length = 32) (k : Nat) (hk : k ≤ l.length) : (ncells l).drop (k * 34) = ncells (l.drop k) := by
  have e : ncells l = ncells (l.take k) ++ ncells (l.drop k) := by rw [← ncells_appendC, List.take_append_drop]
  have hl : (ncells (l.take k)).length = k * 34 := by rw [ncells_length (fun x hx => h x (List.mem_of_mem_take hx)), List.length_take, Nat.min_eq_left hk]
  rw [e, List.drop_left' hl]
theorem own_leC {w : World} {base : Nat} {e : TypeId} {size n c : Nat} {a : Option Addr} {xs : List Value} (h : w.ownsRow base e size (.slice a n c) n xs) : n ≤ c ∧ c ≤ maxLen := by
  rcases h.2 with ⟨e0, hz⟩ | ⟨g, cap, cur, e1, _, _, hn, hm, _⟩
  · injection e0 with _ _ e3
    exact ⟨by omega, by rw [e3]; exact Nat.zero_le _⟩
  · injection e1 with _ _ e3
    subst e3
    exact ⟨hn, hm⟩
theorem three_setE {w : World} {n : Nat} {a b c : Value} {T : TypeId} {fr : Nat × Nat} (h : w.heap[n]? = some (.cells #[a, b, c] T fr)) (y : Value) :
    (w.setCell ⟨n, 2, none⟩ y).heap[n]? = some (.cells #[a, b, y] T fr) := by
  simp [World.setCell, Array.getElem?_modify, h]
theorem joinC_eq (x y : Nat × Nat × List UInt8) : joinC x y = (upK x.1 x.2.1 && upK y.1 y.2.1 && decide (upL x.1 x.2.1 = upL y.1 y.2.1 ∧ upI x.1 x.2.1 = upI y.1 y.2.1)) := rfl

def VQ11 (i c9 g4 g5 g6 PL PI WS B2 : Nat) (a9 : Option Addr) (hx hy z : List UInt8) (xs : List Value) (oi : Nat) (v : Value) (own : Nat → Option Nat) (w : World) : Prop :=
  match oi with
  | 0 => v = .slice a9 i c9
  | 1 => v = .agg #[.int .u8 (PL : Int), .int .u64 (PI : Int)]
  | 2 => v = .pointer (some ⟨g4, 2, none⟩)
  | 3 => v = .agg (ocells (hx))
  | 4 => v = .pointer (some ⟨g5, 2, none⟩)
  | 5 => v = .agg (ocells (hy))
  | 6 => v = .agg (ocells (z))
  | 7 => v = .agg (ncell (PL, PI, z))
  | 8 => BuiltV own w v 1 105 (ncell (PL, PI, z))
  | 9 => GrownW own w 9 WS 105 34 v (i + 1) (xs ++ (ncell (PL, PI, z)).toList) (.slice a9 i c9) B2
  | 10 => GrownW own w 9 WS 105 34 v (i + 1) (xs ++ (ncell (PL, PI, z)).toList) (.slice a9 i c9) B2
  | _ => True
def VQ11mk : Nat → Option Nat := fun _ => none
theorem VQ11_mono (i c9 g4 g5 g6 PL PI WS B2 : Nat) (a9 : Option Addr) (hx hy z : List UInt8) (xs : List Value) (oi oj : Nat) (v : Value) (own : Nat → Option Nat) (w : World) (own' : Nat → Option Nat) (w' : World) (hij : oi ≠ oj)  (hx0 : oi = 9 → oj = 10 → False) (h : VQ11 i c9 g4 g5 g6 PL PI WS B2 a9 hx hy z xs oj v own w) (r : Rel VQ11mk oi own w own' w') : VQ11 i c9 g4 g5 g6 PL PI WS B2 a9 hx hy z xs oj v own' w' := by
  unfold VQ11 at h ⊢
  split at h
  · exact h
  · exact h
  · exact h
  · exact h
  · exact h
  · exact h
  · exact h
  · exact h
  · exact h.stable r
  · exact h.stable r hij
  · exact h.stable r (fun e => hx0 e rfl)
  · trivial

set_option maxHeartbeats 4000000 in
theorem rmjoin1_any (base : Nat) (w : World) (d B E : Nat) (l : List (Nat × Nat × List UInt8)) (s : Value) (h : RmP base w d B E l s) (hm : l.length ≤ 2000) (hI : ∀ x ∈ l, x.2.1 < 2 ^ 64) (hbase : base ≤ w.heap.size) :
    Calls Tryz.prog 132 #[.pointer (some ⟨d, 0, none⟩)] w (JoinR base w d B E l) := by
  obtain ⟨a, c, hs, -, -, hnil⟩ := own_shape h.row
  obtain ⟨m, hm2⟩ : ∃ m, m = l.length := ⟨_, rfl⟩
  rw [← hm2] at hs hnil
  subst hs
  obtain ⟨N, hN⟩ : ∃ N, N = w.heap.size := ⟨_, rfl⟩
  have HN := Bx.mk hN; have HM := Bx.mk hm2; have LM := Bx.mk hm; have H32 := Bx.mk h.h32; have HI := Bx.mk hI; have NIL := Bx.mk hnil; have HBS := Bx.mk hbase
  have HH := Bx.mk (fun u (hu : Below w.heap.size w u) => h.below hu)
  rw [← hN] at HH
  have HR := Bx.mk (fun u (hu : Below N w u) => show u.ownsRow base 105 34 (.slice a m c) m (ncells l) by have hr := (HH.out u hu).row; rw [← hm2] at hr; exact hr)
  have DLT := Bx.mk (show d < N by rw [hN]; exact (Array.getElem?_eq_some_iff.1 h.hb).1)
  have HBD := Bx.mk h.bd
  clear h hm hm2 hI hnil hN hbase
  go_enter Tryz.func132, Tryz.ntmps132
  go_wp2_with fail
  go_loopw [3] (fun iv wr => ∃ i : Nat, iv = .int .i64 ((i + 1 : Nat) : Int) ∧ (i + 1 ≤ m ∨ i = 0) ∧ NJ (l.take (i + 1)) ∧ Below N w wr ∧ N ≤ wr.heap.size) (fun iv _ => (m + 1) - (intOf iv).toNat)
  case atStart => exact ⟨0, rfl, .inr rfl, by
    cases l with
    | nil => trivial
    | cons x t => trivial, Below.refl _ _, Nat.le_of_eq HN.out⟩
  case round =>
    obtain ⟨i, rfl, hi, hnj, hb, hs⟩ := hrel
    have NJI := Bx.mk hnj; have BW := Bx.mk hb; have SW := Bx.mk hs
    have c2 := er_cellAt (HH.out wr hb).hb 2 _ rfl
    clear hnj hb hs
    by_cases hlt : i + 1 < m
    · have TP := Bx.mk (show i + 1 < l.length by rw [← HM.out]; exact hlt)
      have TQ := Bx.mk (show i < l.length by have := TP.out; omega)
      obtain ⟨-, -, -, Bq, oq, e, hbq, hrq, -⟩ := (HH.out wr BW.out).nss.at i TQ.out
      subst e
      obtain ⟨x, hx⟩ : ∃ x, x = l[i]'(TQ.out) := ⟨_, rfl⟩
      rw [← hx] at hrq
      have hrx := hrq
      obtain ⟨-, -, -, Bq2, oq2, e, hbq2, hrq2, -⟩ := (HH.out wr BW.out).nss.at (i + 1) TP.out
      injection e with e
      injection e with e1 e2 _
      subst e1; subst e2
      obtain ⟨y, hy⟩ : ∃ y, y = l[i + 1]'(TP.out) := ⟨_, rfl⟩
      rw [← hy] at hrq2
      have XL := Bx.mk (show x.2.2.length = 32 by rw [hx]; exact H32.out _ (List.getElem_mem _)); have YL := Bx.mk (show y.2.2.length = 32 by rw [hy]; exact H32.out _ (List.getElem_mem _))
      have XI := Bx.mk (show x.2.1 < 2 ^ 64 by rw [hx]; exact HI.out _ (List.getElem_mem _)); have YI := Bx.mk (show y.2.1 < 2 ^ 64 by rw [hy]; exact HI.out _ (List.getElem_mem _))
      have HX := Bx.mk hx; have HY := Bx.mk hy
      have RX := Bx.mk hrx; have RY := Bx.mk hrq2; have BQL := Bx.mk hbq
      have f1 : ((i + 1 : Nat) : Int) < (m : Int) := by omega
      have f2 : ¬ (m : Int) ≤ ((i + 1 : Nat) : Int) := by omega
      have f3 : ((i + 1 : Nat) : Int) - 1 = (i : Int) := by omega
      have f4 : (i : Int) < (m : Int) := by omega
      have f5 : ¬ (m : Int) ≤ (i : Int) := by omega
      have TL := Bx.mk hlt
      have lmx : m ≤ 2000 := by rw [HM.out]; exact LM.out
      clear hx hy hrq hrx hrq2 hbq hbq2 hlt hi
      go_upto_region 5 with (first
        | (guard_target =~ wpList _ _ _ (⟨some 27, _, _, _, _, _⟩ :: _) _ _; refine wpList_load_mid rfl 105 (.tmp 26) rfl Bq (oq + i * 34) rfl (ncell x).toList _ RX.out underNd rfl (nszB XL.out) ?_)
        | (guard_target =~ wpList _ _ _ (⟨none, _, _, _, _, _⟩ :: _) _ _; refine wpList_store_row rfl 105 (.tmp 4) (.tmp 27) rfl wr.heap.size (ncell x) rfl rfl _ _ (heap_alloc_new wr _) (nszA XL.out) (by rw [ncell_size XL.out]; rfl) (ncell_one _) ?_))
      simp only [Act.put]
      rw [setRow_alloc_new _ _ _ _ _ rfl]
      have k4 := er_al (Below.refl wr.heap.size wr) (.cells (ncell x) 105)
      have x4 := heap_alloc_new wr (.cells (ncell x) 105)
      change Code.wp _ _ _ _ (wr.alloc (.cells (ncell x) 105))
      generalize wr.alloc (.cells (ncell x) 105) = W4 at k4 x4 ⊢
      obtain ⟨g4, hg4⟩ : ∃ g, g = wr.heap.size := ⟨_, rfl⟩
      rw [← hg4] at x4 ⊢
      have B4 := Bx.mk (BW.out.trans (k4.mono SW.out)); have S4 := Bx.mk (Nat.le_trans SW.out k4.size); have X4 := Bx.mk x4; have G4 := Bx.mk (show N ≤ g4 by have := SW.out; omega)
      have RY4 := Bx.mk (rangeAt_below RY.out BQL.out k4)
      have c3 := er_cellAt (HH.out W4 B4.out).hb 2 _ rfl
      clear k4 x4 hg4 c2
      go_upto_region 6 with (first
        | (guard_target =~ wpList _ _ _ (⟨some 34, _, _, _, _, _⟩ :: _) _ _; refine wpList_load_mid rfl 105 (.tmp 33) rfl Bq (oq + (i + 1) * 34) rfl (ncell y).toList _ RY4.out underNd rfl (nszB YL.out) ?_)
        | (guard_target =~ wpList _ _ _ (⟨none, _, _, _, _, _⟩ :: _) _ _; refine wpList_store_row rfl 105 (.tmp 5) (.tmp 34) rfl W4.heap.size (ncell y) rfl rfl _ _ (heap_alloc_new W4 _) (nszA YL.out) (by rw [ncell_size YL.out]; rfl) (ncell_one _) ?_))
      simp only [Act.put]
      rw [setRow_alloc_new _ _ _ _ _ rfl]
      have k5 := er_al (Below.refl W4.heap.size W4) (.cells (ncell y) 105)
      have x5 := heap_alloc_new W4 (.cells (ncell y) 105)
      change Code.wp _ _ _ _ (W4.alloc (.cells (ncell y) 105))
      generalize W4.alloc (.cells (ncell y) 105) = W5 at k5 x5 ⊢
      obtain ⟨g5, hg5⟩ : ∃ g, g = W4.heap.size := ⟨_, rfl⟩
      rw [← hg5] at x5 ⊢
      have B5 := Bx.mk (B4.out.trans (k5.mono S4.out)); have S5 := Bx.mk (Nat.le_trans S4.out k5.size); have Y5 := Bx.mk x5; have G5 := Bx.mk (show N ≤ g5 by have := S4.out; omega)
      have X5 := Bx.mk ((k5.block g4 (Array.getElem?_eq_some_iff.1 X4.out).1).trans X4.out)
      have G45 := Bx.mk (show g4 < g5 by have := (Array.getElem?_eq_some_iff.1 X4.out).1; omega)
      have N45 := Bx.mk (show g4 ≠ g5 by have := (Array.getElem?_eq_some_iff.1 X4.out).1; omega)
      clear k5 x5 hg5 c3 f1 f2 f4 f5
      obtain ⟨L1, hL1⟩ : ∃ L, L = x.1 := ⟨_, rfl⟩
      obtain ⟨I1, hI1⟩ : ∃ L, L = x.2.1 := ⟨_, rfl⟩
      obtain ⟨L2, hL2⟩ : ∃ L, L = y.1 := ⟨_, rfl⟩
      obtain ⟨I2, hI2⟩ : ∃ L, L = y.2.1 := ⟨_, rfl⟩
      have CX5 := Bx.mk (show W5.rangeAt g4 0 [.int .u8 (L1 : Int), .int .u64 (I1 : Int)] by rw [hL1, hI1]; exact (node_cells X5.out).1)
      have CP1 := Bx.mk (rparent_any W5 L1 I1 (by rw [hI1]; exact XI.out))
      have HL1 := Bx.mk hL1; have HI1 := Bx.mk hI1; have HL2 := Bx.mk hL2; have HI2 := Bx.mk hI2
      clear hL1 hI1 hL2 hI2
      go_wp2_with (guard_target =~ wpList _ _ _ (⟨some 37, _, _, _, _, _⟩ :: _) _ _; refine wpList_load_mid rfl 103 (.tmp 36) rfl g4 0 rfl [.int .u8 (L1 : Int), .int .u64 (I1 : Int)] _ CX5.out Tryz.underlying103 rfl (by kernel_rfl) ?_; change wpList _ _ _ _ (Act.put _ _ (cv L1 I1)) _)
      refine CP1.out.mono ?_
      rintro e w6 ⟨rfl, hb⟩
      obtain ⟨PL1, hp1⟩ : ∃ q, q = upL L1 I1 := ⟨_, rfl⟩
      obtain ⟨PI1, hp2⟩ : ∃ q, q = upI L1 I1 := ⟨_, rfl⟩
      obtain ⟨K1, hk1⟩ : ∃ q, q = upK L1 I1 := ⟨_, rfl⟩
      rw [← hp1, ← hp2, ← hk1]
      have P1 := Bx.mk (And.intro hp1 (And.intro hp2 hk1))
      have k6 := er_al (Below.refl w6.heap.size w6) (.cells #[.int .u8 (PL1 : Int), .int .u64 (PI1 : Int)] 103)
      have x6 := heap_alloc_new w6 (.cells #[.int .u8 (PL1 : Int), .int .u64 (PI1 : Int)] 103)
      have KS6 := hb.size
      have hb6 := hb.trans (k6.mono hb.size)
      clear hb hp1 hp2 hk1 CP1
      unfold cv
      go_upto_region 7 with (fail)
      change Code.wp _ _ _ _ (w6.alloc (.cells #[.int .u8 (PL1 : Int), .int .u64 (PI1 : Int)] 103))
      obtain ⟨g6, hg6⟩ : ∃ g, g = w6.heap.size := ⟨_, rfl⟩
      rw [← hg6] at x6 ⊢
      have G6 := Bx.mk (show N ≤ g6 ∧ g5 < g6 by have h1 := hb6.size; have h2 := k6.size; have h3 := S5.out; have h4 := (Array.getElem?_eq_some_iff.1 Y5.out).1; have h5 := (Array.getElem?_eq_some_iff.1 x6).1; simp at h5; have := KS6; omega)
      generalize w6.alloc (.cells #[.int .u8 (PL1 : Int), .int .u64 (PI1 : Int)] 103) = W6 at k6 x6 hb6 ⊢
      have B6 := Bx.mk (B5.out.trans (hb6.mono S5.out)); have S6 := Bx.mk (Nat.le_trans S5.out hb6.size); have Z6 := Bx.mk x6
      have X6 := Bx.mk ((hb6.block g4 (Array.getElem?_eq_some_iff.1 X5.out).1).trans X5.out); have Y6 := Bx.mk ((hb6.block g5 (Array.getElem?_eq_some_iff.1 Y5.out).1).trans Y5.out)
      have CY6 := Bx.mk (show W6.rangeAt g5 0 [.int .u8 (L2 : Int), .int .u64 (I2 : Int)] by rw [HL2.out, HI2.out]; exact (node_cells Y6.out).1)
      have CP2 := Bx.mk (rparent_any W6 L2 I2 (by rw [HI2.out]; exact YI.out))
      clear k6 x6 hb6 hg6 KS6
      go_wp2_with (guard_target =~ wpList _ _ _ (⟨some 43, _, _, _, _, _⟩ :: _) _ _; refine wpList_load_mid rfl 103 (.tmp 42) rfl g5 0 rfl [.int .u8 (L2 : Int), .int .u64 (I2 : Int)] _ CY6.out Tryz.underlying103 rfl (by kernel_rfl) ?_; change wpList _ _ _ _ (Act.put _ _ (cv L2 I2)) _)
      refine CP2.out.mono ?_
      rintro e w7 ⟨rfl, hb⟩
      obtain ⟨PL2, hp1⟩ : ∃ q, q = upL L2 I2 := ⟨_, rfl⟩
      obtain ⟨PI2, hp2⟩ : ∃ q, q = upI L2 I2 := ⟨_, rfl⟩
      obtain ⟨K2, hk1⟩ : ∃ q, q = upK L2 I2 := ⟨_, rfl⟩
      rw [← hp1, ← hp2, ← hk1]
      have P2 := Bx.mk (And.intro hp1 (And.intro hp2 hk1))
      have k7 := er_al (Below.refl w7.heap.size w7) (.cells #[.int .u8 (PL2 : Int), .int .u64 (PI2 : Int)] 103)
      have x7 := heap_alloc_new w7 (.cells #[.int .u8 (PL2 : Int), .int .u64 (PI2 : Int)] 103)
      have KS7 := hb.size
      have hb7 := hb.trans (k7.mono hb.size)
      clear hb hp1 hp2 hk1 CP2
      unfold cv
      go_upto_region 8 with (fail)
      change Code.wp _ _ _ _ (w7.alloc (.cells #[.int .u8 (PL2 : Int), .int .u64 (PI2 : Int)] 103))
      obtain ⟨g8, hg8⟩ : ∃ g, g = w7.heap.size := ⟨_, rfl⟩
      rw [← hg8] at x7 ⊢
      have G8 := Bx.mk (show N ≤ g8 ∧ g6 < g8 by have h4 := (Array.getElem?_eq_some_iff.1 Z6.out).1; have := S6.out; omega)
      generalize w7.alloc (.cells #[.int .u8 (PL2 : Int), .int .u64 (PI2 : Int)] 103) = W7 at k7 x7 hb7 ⊢
      have B7 := Bx.mk (B6.out.trans (hb7.mono S6.out)); have S7 := Bx.mk (Nat.le_trans S6.out hb7.size); have V7 := Bx.mk x7
      have X7 := Bx.mk ((hb7.block g4 (Array.getElem?_eq_some_iff.1 X6.out).1).trans X6.out); have Y7 := Bx.mk ((hb7.block g5 (Array.getElem?_eq_some_iff.1 Y6.out).1).trans Y6.out); have Z7 := Bx.mk ((hb7.block g6 (Array.getElem?_eq_some_iff.1 Z6.out).1).trans Z6.out)
      clear k7 x7 hb7 hg8 KS7
      have z0 := er_cellAt Z7.out 0 _ rfl; have z1 := er_cellAt Z7.out 1 _ rfl; have v0 := er_cellAt V7.out 0 _ rfl; have v1 := er_cellAt V7.out 1 _ rfl
      have HJ : Bx (joinC x y = (K1 && K2 && decide (PL1 = PL2 ∧ PI1 = PI2))) := ⟨by rw [joinC_eq, P1.out.1, P1.out.2.1, P1.out.2.2, P2.out.1, P2.out.2.1, P2.out.2.2, HL1.out, HI1.out, HL2.out, HI2.out]⟩
      have NJN : Bx (joinC x y = false → NJ (l.take (i + 1 + 1))) := ⟨fun e => by
        have h1 := NJI.out
        rw [take_snoc TQ.out, ← HX.out] at h1
        rw [take_snoc TP.out, take_snoc TQ.out, ← HX.out, ← HY.out]
        have := NJ_snoc h1 e
        simpa using this⟩
      by_cases hK1 : K1 = false
      · have NX := Bx.mk (NJN.out (by rw [HJ.out, hK1]; rfl))
        subst hK1
        clear z0 z1 v0 v1
        go_wp2_with fail
        go_roundw
        case rel => exact ⟨i + 1, by simp, .inl TL.out, NX.out, B7.out, S7.out⟩
        case measure => have := TL.out; simp [intOf]; omega
      have hK1 : K1 = true := by simpa using hK1
      by_cases hK2 : K2 = false
      · have NX := Bx.mk (NJN.out (by rw [HJ.out, hK1, hK2]; rfl))
        subst hK1 hK2
        clear z0 z1 v0 v1
        go_wp2_with fail
        go_roundw
        case rel => exact ⟨i + 1, by simp, .inl TL.out, NX.out, B7.out, S7.out⟩
        case measure => have := TL.out; simp [intOf]; omega
      have hK2 : K2 = true := by simpa using hK2
      by_cases hPE : ¬ (PL1 = PL2 ∧ PI1 = PI2)
      · have NX := Bx.mk (NJN.out (by rw [HJ.out, hK1, hK2, decide_eq_false hPE]; rfl))
        have qn := fun u => cv_neq u PL1 PI1 PL2 PI2
        rw [decide_eq_false hPE] at qn
        subst hK1 hK2
        clear hPE
        go_wp2_with fail
        go_roundw
        case rel => exact ⟨i + 1, by simp, .inl TL.out, NX.out, B7.out, S7.out⟩
        case measure => have := TL.out; simp [intOf]; omega
      have hPE := Decidable.not_not.1 hPE
      have JC := Bx.mk (show joinC x y = true by rw [HJ.out, hK1, hK2, decide_eq_true hPE]; rfl)
      have qn := fun u => cv_neq u PL1 PI1 PL2 PI2
      rw [decide_eq_true hPE] at qn
      subst hK1 hK2
      clear hPE
      have PR := Bx.mk (own_takeC (HR.out W7 B7.out) i (by have := TL.out; omega) (fun e => by cases e))
      rw [ncells_takeQ H32.out i (by have := TQ.out; omega)] at PR
      have NLI := Bx.mk (show (ncells (l.take i)).length = i * 34 by exact PR.out.1)
      obtain ⟨i0, hi0, hz0, hz1, hz2⟩ := info_parts infoNz
      have RI := Bx.mk (And.intro hi0 (And.intro hz0 (And.intro hz1 hz2)))
      have M1 := Bx.mk (show 0 + i ≤ maxLen by unfold maxLen; omega); have M2 := Bx.mk (show (0 + i) * 48 ≤ 140737488355328 by have := TL.out; omega)
      have R0 := Bx.mk (World.ownsRow_nil W7 W7.heap.size 105 34)
      have hic : i ≤ c := by have h1 := (own_leC (HR.out W7 B7.out)).1; have := TL.out; omega
      have c3 := er_cellAt (HH.out W7 B7.out).hb 2 _ rfl
      have f1 : (i : Int) ≤ (c : Int) := by omega
      have f2 : ((i + 1 : Nat) : Int) - 1 = (i : Int) := by omega
      have f4 : ¬ (c : Int) < (i : Int) := by omega
      clear hi0 hz0 hz1 hz2
      go_upto_region 11 with (guard_target =~ wpList _ _ _ (⟨some 66, _, _, _, _, _⟩ :: _) _ _; refine wpList_append_src rfl (.tmp 58) (.tmp 65) 63 rfl W7.heap.size 105 i0 (.agg zerosN) 34 48 underNs RI.out.1 RI.out.2.1 RI.out.2.2.1 RI.out.2.2.2 rfl (by decide) (.slice none 0 0) 0 [] rfl R0.out (some ⟨Bq, oq, none⟩) i c (ncells (l.take i)) rfl (fun e => by cases e) NLI.out (row_src PR.out) (ncells_oneC _) M1.out M2.out (Nat.le_refl _) ?_; intro v1 w1 o1 g1 _; obtain ⟨a9, c9, rfl, _, _, _⟩ := own_shape o1; have hk1 : Keep (fun _ => False) W7 w1 := (Keep.of_grown g1).mono (fun k _ h => by cases h); have O1 := Bx.mk o1; have G1 := Bx.mk hk1; clear o1 g1 hk1)
      obtain ⟨W8, hW8⟩ : ∃ W8, W8 = w1 := ⟨_, rfl⟩
      rw [← hW8] at O1 G1 ⊢
      obtain ⟨WS, hWS⟩ : ∃ WS, WS = W7.heap.size := ⟨_, rfl⟩
      have o1 := O1.out
      rw [Nat.zero_add, List.nil_append, ← hWS] at o1
      obtain ⟨xs, hxs⟩ : ∃ xs, xs = ncells (l.take i) := ⟨_, rfl⟩
      rw [← hxs] at o1
      have b8 : Below W7.heap.size W7 W8 := G1.out.below (Nat.le_refl _) (fun _ h => h.elim)
      have O9 := Bx.mk o1; have HXS := Bx.mk hxs; have HWS := Bx.mk hWS
      have B8 := Bx.mk (B7.out.trans (b8.mono S7.out)); have S8 := Bx.mk (Nat.le_trans S7.out b8.size)
      have WS2 := Bx.mk (show WS ≤ W8.heap.size by rw [hWS]; exact b8.size)
      have X8 := Bx.mk ((b8.block g4 (Array.getElem?_eq_some_iff.1 X7.out).1).trans X7.out); have Y8 := Bx.mk ((b8.block g5 (Array.getElem?_eq_some_iff.1 Y7.out).1).trans Y7.out); have Z8 := Bx.mk ((b8.block g6 (Array.getElem?_eq_some_iff.1 Z7.out).1).trans Z7.out)
      have G46 := Bx.mk (show g4 ≤ g6 ∧ g5 ≤ g6 by have h1 := G6.out.2; have h2 := G45.out; omega)
      have V6 := Bx.mk (show ∀ g, g ≤ g6 → ¬ (Value.slice a9 i c9).ownBlock = some g from fun g hg e => by have h1 := ownsRow_fresh o1 g e; have h2 := (Array.getElem?_eq_some_iff.1 Z7.out).1; omega)
      obtain ⟨hx, hhx⟩ : ∃ q, q = x.2.2 := ⟨_, rfl⟩
      obtain ⟨hy, hhy⟩ : ∃ q, q = y.2.2 := ⟨_, rfl⟩
      obtain ⟨z, hz⟩ : ∃ q, q = nd hx hy := ⟨_, rfl⟩
      have HX4 := Bx.mk hhx.symm; have HY4 := Bx.mk hhy.symm; have HXL := Bx.mk (show hx.length = 32 by rw [hhx]; exact XL.out); have HYL := Bx.mk (show hy.length = 32 by rw [hhy]; exact YL.out)
      have ZL := Bx.mk (show z.length = 32 by rw [hz]; exact nd_length _ _)
      have ZE := Bx.mk (show sha (1 :: (hx ++ hy)) = z from hz.symm); have HZ := Bx.mk hz
      have M3 := Bx.mk (show i + 1 ≤ maxLen by have := TL.out; unfold maxLen; omega); have M4 := Bx.mk (show (i + 1) * 48 ≤ 140737488355328 by have := TL.out; omega)
      clear o1 hxs b8 hWS hW8 O1 G1 hhx hhy hz c3 f1 f2 f4 qn z0 z1 v0 v1
      refine wp_region_own8 (n := 89) VQ11mk (ownOf (.slice a9 i c9) 9) (VQ11 i c9 g4 g5 g6 PL1 PI1 WS W8.heap.size a9 hx hy z xs) (by kernel_rfl) (by kernel_rfl) rfl (ownOf_top O9.out 9) (fun j i hj _ => by cases hj) ?_ ?_ ?_
      · exact fun oi oj v own w own' w' hij hnd h r => VQ11_mono i c9 g4 g5 g6 PL1 PI1 WS W8.heap.size a9 hx hy z xs oi oj v own w own' w' hij (by rintro rfl rfl; exact Bool.noConfusion (hnd.symm.trans (show depB _ 10 9 = true by kernel_rfl))) h r
      · intro oi o hi f u own hsame hsn hfr hlate hkeep8 hdep
        have hkeep := hkeep8 _ (.inl rfl)
        have hkv := hsn.keepOf
        match oi, hi with
        | 0, hi =>
          cases (show some _ = some o from hi)
          have e10 : f.tmps.getD 10 undef = .slice a9 i c9 := hlate 10 (late_of (by kernel_rfl))
          clear hdep hsame hi hlate hfr hkeep
          exact .inl ⟨wanted_none rfl, showsO_move hsn rfl _ rfl e10⟩
        | 1, hi =>
          cases (show some _ = some o from hi)
          have e6 : f.tmps.getD 6 undef = .pointer (some ⟨g6, 0, none⟩) := hsame.slot 6 (fun i o h => invB2_not 6 (by kernel_rfl) h)
          clear hdep hsame hi hlate hfr hkeep
          exact .inl ⟨wanted_none rfl, showsO_row hsn rfl 103 (.tmp 6) rfl g6 e6 #[.int .u8 (PL1 : Int), .int .u64 (PI1 : Int)] ((hkv.block g6 (Array.getElem?_eq_some_iff.1 Z8.out).1 (V6.out g6 (Nat.le_refl _))).trans Z8.out) Tryz.underlying103 rfl (by kernel_rfl) rfl⟩
        | 2, hi =>
          cases (show some _ = some o from hi)
          have e4 : f.tmps.getD 4 undef = .pointer (some ⟨g4, 0, none⟩) := hsame.slot 4 (fun i o h => invB2_not 4 (by kernel_rfl) h)
          clear hdep hsame hi hlate hfr hkeep
          exact .inl ⟨wanted_none rfl, showsO_pure hsn rfl (.pointer (some ⟨g4, 2, none⟩)) (by simp only [execOp, Act.eval]; go_simp) rfl⟩
        | 3, hi =>
          cases (show some _ = some o from hi)
          have e69 : (f.tmps.getD 69 undef) = .pointer (some ⟨g4, 2, none⟩) := depO (V := (VQ11 i c9 g4 g5 g6 PL1 PI1 WS W8.heap.size a9 hx hy z xs)) hdep 2 69 (by kernel_rfl) (by kernel_rfl)
          clear hdep hsame hi hlate hfr hkeep
          exact .inl ⟨wanted_none rfl, showsO_mid hsn rfl 81 (.tmp 69) rfl g4 (2) e69 (bcells hx) (HX4.out ▸ (node_cells ((hkv.block g4 (Array.getElem?_eq_some_iff.1 X8.out).1 (V6.out g4 G46.out.1)).trans X8.out)).2) underH rfl (hszB' HXL.out) rfl⟩
        | 4, hi =>
          cases (show some _ = some o from hi)
          have e5 : f.tmps.getD 5 undef = .pointer (some ⟨g5, 0, none⟩) := hsame.slot 5 (fun i o h => invB2_not 5 (by kernel_rfl) h)
          clear hdep hsame hi hlate hfr hkeep
          exact .inl ⟨wanted_none rfl, showsO_pure hsn rfl (.pointer (some ⟨g5, 2, none⟩)) (by simp only [execOp, Act.eval]; go_simp) rfl⟩
        | 5, hi =>
          cases (show some _ = some o from hi)
          have e71 : (f.tmps.getD 71 undef) = .pointer (some ⟨g5, 2, none⟩) := depO (V := (VQ11 i c9 g4 g5 g6 PL1 PI1 WS W8.heap.size a9 hx hy z xs)) hdep 4 71 (by kernel_rfl) (by kernel_rfl)
          clear hdep hsame hi hlate hfr hkeep
          exact .inl ⟨wanted_none rfl, showsO_mid hsn rfl 81 (.tmp 71) rfl g5 (2) e71 (bcells hy) (HY4.out ▸ (node_cells ((hkv.block g5 (Array.getElem?_eq_some_iff.1 Y8.out).1 (V6.out g5 G46.out.2)).trans Y8.out)).2) underH rfl (hszB' HYL.out) rfl⟩
        | 6, hi =>
          cases (show some _ = some o from hi)
          have e70 : (f.tmps.getD 70 undef) = .agg (ocells (hx)) := depO (V := (VQ11 i c9 g4 g5 g6 PL1 PI1 WS W8.heap.size a9 hx hy z xs)) hdep 3 70 (by kernel_rfl) (by kernel_rfl)
          have e72 : (f.tmps.getD 72 undef) = .agg (ocells (hy)) := depO (V := (VQ11 i c9 g4 g5 g6 PL1 PI1 WS W8.heap.size a9 hx hy z xs)) hdep 5 72 (by kernel_rfl) (by kernel_rfl)
          clear hdep hsame hi hlate hfr hkeep
          have cn := rnode_any u hx hy HXL.out HYL.out
          rw [hv_agg, hv_agg, hv_agg, show sha (1 :: (hx ++ hy)) = z from ZE.out] at cn
          exact .inl ⟨wanted_none rfl, showsO_call1 hsn rfl 134 #[.agg (ocells (hx)), .agg (ocells (hy))] (by simp only [execOp, Act.eval]; go_simp) (cn) (fun _ => rfl)⟩
        | 7, hi =>
          cases (show some _ = some o from hi)
          have e68 : (f.tmps.getD 68 undef) = .agg #[.int .u8 (PL1 : Int), .int .u64 (PI1 : Int)] := depO (V := (VQ11 i c9 g4 g5 g6 PL1 PI1 WS W8.heap.size a9 hx hy z xs)) hdep 1 68 (by kernel_rfl) (by kernel_rfl)
          have e73 : (f.tmps.getD 73 undef) = .agg (ocells (z)) := depO (V := (VQ11 i c9 g4 g5 g6 PL1 PI1 WS W8.heap.size a9 hx hy z xs)) hdep 6 73 (by kernel_rfl) (by kernel_rfl)
          clear hdep hsame hi hlate hfr hkeep
          exact .inl ⟨wanted_none rfl, showsO_build hsn rfl 105 #[(0, .tmp 68), (1, .tmp 73)] rfl (ncell (PL1, PI1, z)) (by simp only [List.map_toArray, List.map_cons, List.map_nil, Act.eval]; rw [e68, e73]; exact built_node _ _ z ZL.out) rfl⟩
        | 8, hi =>
          cases (show some _ = some o from hi)
          have e74 : (f.tmps.getD 74 undef) = .agg (ncell (PL1, PI1, z)) := depO (V := (VQ11 i c9 g4 g5 g6 PL1 PI1 WS W8.heap.size a9 hx hy z xs)) hdep 7 74 (by kernel_rfl) (by kernel_rfl)
          clear hdep hsame hi hlate hfr hkeep
          exact .inl ⟨wanted_none rfl, showsO_built hsn rfl 1 105 (ncell (PL1, PI1, z)) (run_bs_node u (.tmp 74) rfl (ncell (PL1, PI1, z)) (ncell_size ZL.out) e74) (fun h => h)⟩
        | 9, hi =>
          cases (show some _ = some o from hi)
          have e67 : (f.tmps.getD 67 undef) = .slice a9 i c9 := depO (V := (VQ11 i c9 g4 g5 g6 PL1 PI1 WS W8.heap.size a9 hx hy z xs)) hdep 0 67 (by kernel_rfl) (by kernel_rfl)
          have e75 : BuiltV own u (f.tmps.getD 75 undef) 1 105 (ncell (PL1, PI1, z)) := depO (V := (VQ11 i c9 g4 g5 g6 PL1 PI1 WS W8.heap.size a9 hx hy z xs)) hdep 8 75 (by kernel_rfl) (by kernel_rfl)
          clear hdep hsame hi hlate hfr
          exact .inl ⟨wanted_none rfl, showsO_appendW hsn hkeep rfl (.tmp 67) (.tmp 75) 63 rfl WS 105 i0 (.agg zerosN) 34 48 underNs RI.out.1 RI.out.2.1 RI.out.2.2.1 RI.out.2.2.2 rfl (by decide) (.slice a9 i c9) i xs e67 O9.out (ownOf_at _ _) e75 (by rw [ncell_size ZL.out]) (ncell_one _) M3.out M4.out WS2.out (fun _ _ _ h => h)⟩
        | 10, hi =>
          cases (show some _ = some o from hi)
          have e76 : GrownW own u 9 WS 105 34 (f.tmps.getD 76 undef) (i + 1) (xs ++ (ncell (PL1, PI1, z)).toList) (.slice a9 i c9) W8.heap.size := depO (V := (VQ11 i c9 g4 g5 g6 PL1 PI1 WS W8.heap.size a9 hx hy z xs)) hdep 9 76 (by kernel_rfl) (by kernel_rfl)
          clear hdep hsame hi hlate hfr hkeep
          exact .inl ⟨wanted_none rfl, showsO_assign hsn rfl _ rfl e76⟩
        | n + 11, hi => exact absurd hi (by simp)
      · intro f W9 own hsame hsn hall
        have q67 : f.tmps.getD 67 undef = .slice a9 i c9 := finO (V := (VQ11 i c9 g4 g5 g6 PL1 PI1 WS W8.heap.size a9 hx hy z xs)) hall 0 67 rfl
        have q68 : f.tmps.getD 68 undef = .agg #[.int .u8 (PL1 : Int), .int .u64 (PI1 : Int)] := finO (V := (VQ11 i c9 g4 g5 g6 PL1 PI1 WS W8.heap.size a9 hx hy z xs)) hall 1 68 rfl
        have q69 : f.tmps.getD 69 undef = .pointer (some ⟨g4, 2, none⟩) := finO (V := (VQ11 i c9 g4 g5 g6 PL1 PI1 WS W8.heap.size a9 hx hy z xs)) hall 2 69 rfl
        have q70 : f.tmps.getD 70 undef = .agg (ocells (hx)) := finO (V := (VQ11 i c9 g4 g5 g6 PL1 PI1 WS W8.heap.size a9 hx hy z xs)) hall 3 70 rfl
        have q71 : f.tmps.getD 71 undef = .pointer (some ⟨g5, 2, none⟩) := finO (V := (VQ11 i c9 g4 g5 g6 PL1 PI1 WS W8.heap.size a9 hx hy z xs)) hall 4 71 rfl
        have q72 : f.tmps.getD 72 undef = .agg (ocells (hy)) := finO (V := (VQ11 i c9 g4 g5 g6 PL1 PI1 WS W8.heap.size a9 hx hy z xs)) hall 5 72 rfl
        have q73 : f.tmps.getD 73 undef = .agg (ocells (z)) := finO (V := (VQ11 i c9 g4 g5 g6 PL1 PI1 WS W8.heap.size a9 hx hy z xs)) hall 6 73 rfl
        have q74 : f.tmps.getD 74 undef = .agg (ncell (PL1, PI1, z)) := finO (V := (VQ11 i c9 g4 g5 g6 PL1 PI1 WS W8.heap.size a9 hx hy z xs)) hall 7 74 rfl
        obtain ⟨g75, q75, o75, m75⟩ : BuiltV own W9 (f.tmps.getD 75 undef) 1 105 (ncell (PL1, PI1, z)) := finO (V := (VQ11 i c9 g4 g5 g6 PL1 PI1 WS W8.heap.size a9 hx hy z xs)) hall 8 75 rfl
        have m76 := finO (V := (VQ11 i c9 g4 g5 g6 PL1 PI1 WS W8.heap.size a9 hx hy z xs)) hall 9 76 rfl
        obtain ⟨r76, q76⟩ : ∃ r, f.tmps.getD 76 undef = r := ⟨_, rfl⟩
        rw [q76] at m76
        have m10 := finO (V := (VQ11 i c9 g4 g5 g6 PL1 PI1 WS W8.heap.size a9 hx hy z xs)) hall 10 10 rfl
        obtain ⟨r10, q10⟩ : ∃ r, f.tmps.getD 10 undef = r := ⟨_, rfl⟩
        rw [q10] at m10
        obtain rfl := frame_eq hsame [(67, .slice a9 i c9), (68, .agg #[.int .u8 (PL1 : Int), .int .u64 (PI1 : Int)]), (69, .pointer (some ⟨g4, 2, none⟩)), (70, .agg (ocells (hx))), (71, .pointer (some ⟨g5, 2, none⟩)), (72, .agg (ocells (hy))), (73, .agg (ocells (z))), (74, .agg (ncell (PL1, PI1, z))), (75, .slice (some ⟨g75, 0, none⟩) 1 1), (76, r76), (10, r10)] (by kernel_rfl) ⟨q67, q68, q69, q70, q71, q72, q73, q74, q75, q76, q10, trivial⟩
        clear hall hsame q67 q68 q69 q70 q71 q72 q73 q74 q75 q76 q10
        simp only [List.foldl, List.setIfInBounds_toArray, List.set_cons_succ, List.set_cons_zero]
        have hkv := hsn.keepOf
        obtain ⟨⟨o10, -⟩, fr10⟩ := m10
        obtain ⟨a10, c10, hr10, -, -, -⟩ := own_shape o10
        subst hr10
        have B9 := Bx.mk (B8.out.trans (hkv.below S8.out (fun j hj => by have h1 := ownsRow_fresh O9.out j hj; have h2 := HWS.out; have h3 := S7.out; omega)))
        have S9 := Bx.mk (Nat.le_trans S8.out hkv.size)
        have hks := hkv.size
        have O10 := Bx.mk o10
        have c3 := er_cellAt (HH.out W9 B9.out).hb 2 _ rfl
        have tl := TL.out
        have mc : m ≤ c := (own_leC (HR.out W9 B9.out)).1
        have g1 : (i : Int) + 1 + 1 ≤ (m : Int) := by omega
        have g2 : (m : Int) ≤ (c : Int) := by omega
        have g3 : (0 : Int) ≤ (i : Int) + 1 + 1 := by omega
        clear m76 o10 fr10 hkv hsn
        obtain ⟨r, hr⟩ : ∃ r, r = m - (i + 1 + 1) := ⟨_, rfl⟩
        have DR := Bx.mk (show (ncells (l.drop (i + 1 + 1))).length = (m - (i + 1 + 1)) * 34 by rw [ncells_length (fun q hq => H32.out q (List.mem_of_mem_drop hq)), List.length_drop, ← HM.out])
        have NEWS := Bx.mk (show ∀ j u, (ncells (l.drop (i + 1 + 1)))[j]? = some u → W9.cell? ((⟨Bq, oq + (i + 1 + 1) * 34, none⟩ : Addr).add j) = some u from fun j u hu => by
          rw [← ncells_dropQ H32.out (i + 1 + 1) (by have := TP.out; omega), List.getElem?_drop] at hu
          have h1 := row_src (HR.out W9 B9.out) _ rfl ((i + 1 + 1) * 34 + j) u hu
          rw [Addr.add_mid] at h1 ⊢
          rw [Nat.add_assoc]; exact h1)
        obtain ⟨XS, hXS⟩ : ∃ q, q = xs ++ (ncell (PL1, PI1, z)).toList := ⟨_, rfl⟩
        have o10 := O10.out
        rw [← hXS] at o10
        have O11 := Bx.mk o10; have HXX := Bx.mk hXS
        have M5 := Bx.mk (show i + 1 + (m - (i + 1 + 1)) ≤ maxLen by have := TL.out; unfold maxLen; omega); have M6 := Bx.mk (show (i + 1 + (m - (i + 1 + 1))) * 48 ≤ 140737488355328 by have := TL.out; omega)
        have WS3 := Bx.mk (show WS ≤ W9.heap.size by have h1 := HWS.out; have h2 := S9.out; have h3 := WS2.out; exact Nat.le_trans h3 hks)
        have DH := Bx.mk (HH.out W9 B9.out).hb
        have DNE := Bx.mk (show ¬ (Value.slice a10 (i + 1) c10).ownBlock = some d from fun e => by have h1 := ownsRow_fresh O11.out d e; have h2 := HWS.out; have h3 := S7.out; have h4 := DLT.out; omega)
        clear o10 hXS hr
        by_cases hcc : c = i + 1 + 1
        · subst hcc
          obtain rfl : m = i + 1 + 1 := by omega
          have ND0 : Bx (ncells (l.drop (i + 1 + 1)) = []) := ⟨by rw [List.drop_of_length_le (by rw [← HM.out]; exact Nat.le_refl _)]; rfl⟩
          go_wp2_with (guard_target =~ wpList _ _ _ (⟨some 86, _, _, _, _, _⟩ :: _) _ _; refine wpList_append_apw _ rfl (.tmp 78) (.tmp 85) 63 rfl WS 105 i0 (.agg zerosN) 34 48 underNs RI.out.1 RI.out.2.1 RI.out.2.2.1 RI.out.2.2.2 rfl (by decide) (.slice a10 (i + 1) c10) (i + 1) XS rfl O11.out ⟨Bq, oq, none⟩ 0 0 [] rfl rfl (fun j u h => by simp at h) (fun u h => by cases h) M3.out M4.out WS3.out ?_; intro v12 W12 happ; obtain ⟨a12, c12, hv12, -, -, -⟩ := own_shape (appTwo_keepE happ).1; subst hv12; have xd := ((appTwo_keepE happ).2.1.block d (Array.getElem?_eq_some_iff.1 DH.out).1 DNE.out).trans DH.out; have d2 := er_cellAt xd 2 _ rfl; have fd := frozenC xd 2; have AP := Bx.mk happ; have XD := Bx.mk xd; clear happ xd)
          clear d2 fd g1 g2 g3 tl mc c3
          have FIN : Bx (JoinR base w d B E l (.returned (.bool true)) (W12.setCell ⟨d, 2, none⟩ (.slice a12 (i + 1 + 0) c12))) := ⟨by
            obtain ⟨o12, k12, -⟩ := appTwo_keepE AP.out
            have hup : upC1 x y = (PL1, PI1, z) := by unfold upC1; rw [P1.out.1, P1.out.2.1, HL1.out, HI1.out, HZ.out, HX4.out, HY4.out]
            have hjf := joinF_some (l.take i) x y (l.drop (i + 1 + 1)) (by have h1 := NJI.out; rw [take_snoc TQ.out, ← HX.out] at h1; exact h1) JC.out
            have hl := take_two TP.out
            rw [← HX.out, ← HY.out] at hl
            rw [← hl, hup] at hjf
            have hNW : N ≤ WS := by rw [HWS.out]; exact S7.out
            have b12 : Below N w W12 := B9.out.trans (k12.below S9.out (fun j hj => Nat.le_trans hNW (ownsRow_fresh O11.out j hj)))
            refine .inr ⟨_, hjf, rfl, _, ⟨three_setE XD.out _, HBD.out, ?_, fun q hq => ?_⟩, (Keep.of_below (HN.out ▸ b12) (fun j => j = d)).trans (Keep.setCell W12 ⟨d, 2, none⟩ _) (fun _ _ h => h), fun k hk => by rw [← HN.out]; exact Nat.le_trans hNW (ownsRow_fresh o12 k hk)⟩
            · have h1 := ownsRow_setCell_ne o12 ⟨d, 2, none⟩ (.slice a12 (i + 1 + 0) c12) (fun k hk e => by have h1 := ownsRow_fresh o12 k hk; have e2 : k = d := e; have := DLT.out; omega)
              have hb2 : base ≤ WS := Nat.le_trans HBS.out (by rw [← HN.out]; exact hNW)
              have e1 : XS ++ [] = ncells (l.take i ++ (PL1, PI1, z) :: l.drop (i + 1 + 1)) := by
                rw [List.append_nil, HXX.out, HXS.out, ncells_push, show l.take i ++ (PL1, PI1, z) :: l.drop (i + 1 + 1) = l.take i ++ [(PL1, PI1, z)] ++ l.drop (i + 1 + 1) by simp, ncells_appendC (l.take i ++ [(PL1, PI1, z)]), ND0.out, List.append_nil]
              have e2 : (l.take i ++ (PL1, PI1, z) :: l.drop (i + 1 + 1)).length = (i + 1 + 0) := by
                have h3 := TP.out
                have h4 := HM.out
                simp only [List.length_append, List.length_take, List.length_cons, List.length_drop]
                omega
              rw [e1] at h1
              rw [e2]
              exact ownsRow_mono h1 hb2
            · rcases List.mem_append.1 hq with hq | hq
              · exact H32.out q (List.mem_of_mem_take hq)
              · rcases List.mem_cons.1 hq with rfl | hq
                · exact ZL.out
                · exact H32.out q (List.mem_of_mem_drop hq)⟩
          go_ret
          exact FIN.out
        · have hcc2 : ¬ i + 1 + 1 = c := fun e => hcc e.symm
          go_wp2_with (guard_target =~ wpList _ _ _ (⟨some 86, _, _, _, _, _⟩ :: _) _ _; refine wpList_append_apw _ rfl (.tmp 78) (.tmp 85) 63 rfl WS 105 i0 (.agg zerosN) 34 48 underNs RI.out.1 RI.out.2.1 RI.out.2.2.1 RI.out.2.2.2 rfl (by decide) (.slice a10 (i + 1) c10) (i + 1) XS rfl O11.out ⟨Bq, oq + (i + 1 + 1) * 34, none⟩ (m - (i + 1 + 1)) (c - (i + 1 + 1)) (ncells (l.drop (i + 1 + 1))) rfl DR.out NEWS.out (ncells_oneC _) M5.out M6.out WS3.out ?_; intro v12 W12 happ; obtain ⟨a12, c12, hv12, -, -, -⟩ := own_shape (appTwo_keepE happ).1; subst hv12; have xd := ((appTwo_keepE happ).2.1.block d (Array.getElem?_eq_some_iff.1 DH.out).1 DNE.out).trans DH.out; have d2 := er_cellAt xd 2 _ rfl; have fd := frozenC xd 2; have AP := Bx.mk happ; have XD := Bx.mk xd; clear happ xd)
          clear d2 fd g1 g2 g3 tl mc c3
          have FIN : Bx (JoinR base w d B E l (.returned (.bool true)) (W12.setCell ⟨d, 2, none⟩ (.slice a12 (i + 1 + (m - (i + 1 + 1))) c12))) := ⟨by
            obtain ⟨o12, k12, -⟩ := appTwo_keepE AP.out
            have hup : upC1 x y = (PL1, PI1, z) := by unfold upC1; rw [P1.out.1, P1.out.2.1, HL1.out, HI1.out, HZ.out, HX4.out, HY4.out]
            have hjf := joinF_some (l.take i) x y (l.drop (i + 1 + 1)) (by have h1 := NJI.out; rw [take_snoc TQ.out, ← HX.out] at h1; exact h1) JC.out
            have hl := take_two TP.out
            rw [← HX.out, ← HY.out] at hl
            rw [← hl, hup] at hjf
            have hNW : N ≤ WS := by rw [HWS.out]; exact S7.out
            have b12 : Below N w W12 := B9.out.trans (k12.below S9.out (fun j hj => Nat.le_trans hNW (ownsRow_fresh O11.out j hj)))
            refine .inr ⟨_, hjf, rfl, _, ⟨three_setE XD.out _, HBD.out, ?_, fun q hq => ?_⟩, (Keep.of_below (HN.out ▸ b12) (fun j => j = d)).trans (Keep.setCell W12 ⟨d, 2, none⟩ _) (fun _ _ h => h), fun k hk => by rw [← HN.out]; exact Nat.le_trans hNW (ownsRow_fresh o12 k hk)⟩
            · have h1 := ownsRow_setCell_ne o12 ⟨d, 2, none⟩ (.slice a12 (i + 1 + (m - (i + 1 + 1))) c12) (fun k hk e => by have h1 := ownsRow_fresh o12 k hk; have e2 : k = d := e; have := DLT.out; omega)
              have hb2 : base ≤ WS := Nat.le_trans HBS.out (by rw [← HN.out]; exact hNW)
              have e1 : XS ++ ncells (l.drop (i + 1 + 1)) = ncells (l.take i ++ (PL1, PI1, z) :: l.drop (i + 1 + 1)) := by
                rw [HXX.out, HXS.out, ncells_push, show l.take i ++ (PL1, PI1, z) :: l.drop (i + 1 + 1) = l.take i ++ [(PL1, PI1, z)] ++ l.drop (i + 1 + 1) by simp, ncells_appendC (l.take i ++ [(PL1, PI1, z)])]
              have e2 : (l.take i ++ (PL1, PI1, z) :: l.drop (i + 1 + 1)).length = (i + 1 + (m - (i + 1 + 1))) := by
                have h3 := TP.out
                have h4 := HM.out
                simp only [List.length_append, List.length_take, List.length_cons, List.length_drop]
                omega
              rw [e1] at h1
              rw [e2]
              exact ownsRow_mono h1 hb2
            · rcases List.mem_append.1 hq with hq | hq
              · exact H32.out q (List.mem_of_mem_take hq)
              · rcases List.mem_cons.1 hq with rfl | hq
                · exact ZL.out
                · exact H32.out q (List.mem_of_mem_drop hq)⟩
          go_ret
          exact FIN.out
    · have hj := NJI.out
      rw [List.take_of_length_le (by rw [← HM.out]; omega)] at hj
      have FIN : Bx (JoinR base w d B E l (.returned (.bool false)) wr) := ⟨.inl ⟨joinF_none hj, rfl, by rw [← HN.out]; exact BW.out⟩⟩
      have f1 : ¬ ((i + 1 : Nat) : Int) < (m : Int) := by omega
      have f2 : ¬ (i : Int) + 1 < (m : Int) := by omega
      clear hj hlt hi
      go_wp2_with fail
      go_ret
      exact FIN.out
end Go.Proofs.YtgbafjmklefoiaaGreatDoor
