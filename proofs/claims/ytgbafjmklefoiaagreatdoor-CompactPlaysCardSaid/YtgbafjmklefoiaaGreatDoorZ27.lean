/- compact: Root of a range that does not begin at 0; Load of a stretch that may not be. cartularylaw09: the world of four ranges of the program and four of the document. cartularylaw09: at, first. -/
import Derived.Test.YtgbafjmklefoiaaGreatDoorZ26
import Derived.Test.YtgbafjmklefoiaaGreatDoorZ17
import Derived.Test.YtgbafjmklefoiaaGreatDoorZ20
section
namespace Go.Proofs.YtgbafjmklefoiaaGreatDoor
set_option maxRecDepth 100000
open Go.RowKit
def VE4 (A : Nat → Addr) (N : Nat) (oi : Nat) (v : Value) (own : Nat → Option Nat) (w : World) : Prop :=
  match oi with
  | 0 => v = .agg (ocells (zero32'))
  | 1 => v = .iface 282 (.pointer (some (A 4)))
  | 2 => OutV own w (N) 2 81 (ocells (zero32'))
  | 3 => v = .iface 282 (.pointer (some (A 4)))
  | _ => True
def VE4mk : Nat → Option Nat := fun _ => none
theorem VE4_mono (A : Nat → Addr) (N : Nat) (oi oj : Nat) (v : Value) (own : Nat → Option Nat) (w : World) (own' : Nat → Option Nat) (w' : World) (hij : oi ≠ oj)   (h : VE4 A N oj v own w) (r : Rel VE4mk oi own w own' w') : VE4 A N oj v own' w' := by
  unfold VE4 at h ⊢
  split at h
  · exact h
  · exact h
  · exact h.stable r hij
  · exact h
  · trivial

set_option maxHeartbeats 1600000 in
theorem rroot_range (A : Nat → Addr) (base : Nat) (w : World) (r B E : Nat) (l : List (Nat × Nat × List UInt8)) (s : Value) (h : RaP base w r B E l s) (hB : B ≠ 0) (hE : Errs w A) : Calls Tryz.prog 24 #[.pointer (some ⟨r, 0, none⟩)] w fun e w' => e = .returned (.tuple #[hv zero32', .iface 282 (.pointer (some (A 4)))]) ∧ Below w.heap.size w w' := by
  have kb := er_al (Below.refl w.heap.size w) (.cells zeros32 81)
  have xN := heap_alloc_new w (.cells zeros32 81)
  have hd := h.below kb
  have he := hE.below kb
  have GL : Bx (3 < w.heap.size) := ⟨block_lt_of_cell (show w.cell? ⟨3, 0, none⟩ = some (.iface 282 (.pointer (some (A 4)))) from hE.glob 4 (by decide))⟩
  go_enter Tryz.func24, Tryz.ntmps24
  go_upto_region 1 with (fail)
  change Code.wp _ _ _ _ (w.alloc (.cells zeros32 81))
  generalize w.alloc (.cells zeros32 81) = W0 at kb xN hd he ⊢
  obtain ⟨N, hN⟩ : ∃ N, N = w.heap.size := ⟨_, rfl⟩
  rw [← hN] at xN ⊢
  have KB := Bx.mk kb; have XN0 := Bx.mk xN; have NL := Bx.mk (show w.heap.size ≤ N by omega); have E0 := Bx.mk he
  clear kb xN hN h hE he
  go_wp2_with fail
  refine (there_any hd).mono ?_
  rintro e W ⟨rfl, hb⟩
  have K1 := Bx.mk (KB.out.trans (hb.mono KB.out.size)); have E1 := Bx.mk (E0.out.below hb); have XN := Bx.mk ((hb.block _ (Array.getElem?_eq_some_iff.1 XN0.out).1).trans XN0.out)
  have z1 : zero32'.length = 32 := by decide
  have ZL := Bx.mk z1
  have G0 : Bx (W.cell? ⟨3, 0, none⟩ = some (.iface 282 (.pointer (some (A 4))))) := ⟨E1.out.glob 4 (by decide)⟩
  have GN : Bx (¬ 3 = N) := ⟨fun e => by have := GL.out; have := NL.out; omega⟩
  have c1 := er_cellAt (hd.below hb).hb 1 _ rfl
  have n1 : ¬ (B : Int) = 0 := by omega
  clear hb KB XN0 E0 hd z1 hB
  go_upto_region 4 with (fail)
  refine wp_region_own8 (n := 60) VE4mk (fun k => if k = N then some 2 else none) (VE4 A N) (by kernel_rfl) (by kernel_rfl) rfl (fun k hk => if_neg (by have := (Array.getElem?_eq_some_iff.1 XN.out).1; omega)) (fun j i hj _ => by cases hj) ?_ ?_ ?_
  · exact fun oi oj v own w own' w' hij _ h r => VE4_mono A N oi oj v own w own' w' hij h r
  · intro oi o hi f u own hsame hsn hfr hlate hkeep8 hdep
    have hkeep := hkeep8 _ (.inl rfl)
    have hk6 := hsn.keepOne
    match oi, hi with
    | 0, hi =>
      cases (show some _ = some o from hi)
      clear hdep hsame hi hlate hfr hkeep
      exact .inl ⟨wanted_none rfl, showsO_build hsn rfl 81 #[] rfl (ocells zero32') (by simp only [List.map_toArray, List.map_nil]; exact built_zeroC) rfl⟩
    | 1, hi =>
      cases (show some _ = some o from hi)
      clear hdep hsame hi hlate hfr hkeep
      have gE := cell_keepC hk6 G0.out GN.out
      exact .inl ⟨wanted_none rfl, showsO_pure hsn rfl (.iface 282 (.pointer (some (A 4)))) (by simp only [execOp, Act.eval]; go_simp) rfl⟩
    | 2, hi =>
      cases (show some _ = some o from hi)
      have e2 : f.tmps.getD 2 undef = .pointer (some ⟨N, 0, none⟩) := hsame.slot 2 (fun i o h => invB2_not 2 (by kernel_rfl) h)
      have e17 : (f.tmps.getD 17 undef) = .agg (ocells (zero32')) := depO (V := (VE4 A N)) hdep 0 17 (by kernel_rfl) (by kernel_rfl)
      clear hdep hsame hi hlate hfr hkeep
      exact .inl ⟨wanted_none rfl, showsO_store_out hsn rfl 81 (.tmp 2) (.tmp 17) rfl (N) e2 XN.out (if_pos rfl) (ocells (zero32')) e17 (hszL ZL.out) (by rw [ocells_size, ZL.out]; rfl) (ocells_one _) (fun _ h => h)⟩
    | 3, hi =>
      cases (show some _ = some o from hi)
      have e18 : (f.tmps.getD 18 undef) = .iface 282 (.pointer (some (A 4))) := depO (V := (VE4 A N)) hdep 1 18 (by kernel_rfl) (by kernel_rfl)
      clear hdep hsame hi hlate hfr hkeep
      exact .inl ⟨wanted_none rfl, showsO_assign hsn rfl _ rfl e18⟩
    | n + 4, hi => exact absurd hi (by simp)
  intro fr u own hsame hsn hall
  have q17 : fr.tmps.getD 17 undef = .agg (ocells (zero32')) := finO (V := (VE4 A N)) hall 0 17 rfl
  have q18 : fr.tmps.getD 18 undef = .iface 282 (.pointer (some (A 4))) := finO (V := (VE4 A N)) hall 1 18 rfl
  obtain ⟨o_2, m_2⟩ : OutV own u (N) 2 81 (ocells (zero32')) := finN (V := (VE4 A N)) hall 2 rfl
  have q3 : fr.tmps.getD 3 undef = .iface 282 (.pointer (some (A 4))) := finO (V := (VE4 A N)) hall 3 3 rfl
  obtain rfl := frame_eq hsame [(17, .agg (ocells (zero32'))), (18, .iface 282 (.pointer (some (A 4)))), (3, .iface 282 (.pointer (some (A 4))))] (by kernel_rfl) ⟨q17, q18, q3, trivial⟩
  clear hall hsame q17 q18 q3
  simp only [List.foldl, List.setIfInBounds_toArray, List.set_cons_succ, List.set_cons_zero]
  have hk6 := hsn.keepOne
  have M9 := Bx.mk m_2
  have K2 := Bx.mk (K1.out.trans (hk6.below (B := w.heap.size) (Nat.le_trans K1.out.size (Nat.le_refl _)) (fun k hk => by have := NL.out; omega)))
  clear hk6 m_2 o_2 hsn
  go_wp2_with fail
  exact bodyPost_ret (res_hbC rfl _ _ N _ (ocells zero32') _ rfl M9.out (hszL ZL.out)) rfl ⟨rfl, K2.out⟩
set_option maxHeartbeats 1600000 in
theorem cover_bad (A : Nat → Addr) (w : World) (B E : Nat) (hbad : E < B ∨ 9223372036854775808 < E) (hE : Errs w A) :
    Calls Tryz.prog 82 #[sv B E] w fun e w' => e = .returned (.tuple #[.slice none 0 0, .iface 282 (.pointer (some (A 4)))]) ∧ Below w.heap.size w w' := by
  have k0 := below_new w (.cells #[.int .u64 (B : Int), .int .u64 (E : Int)] 54)
  have h0 := heap_alloc_new w (.cells #[.int .u64 (B : Int), .int .u64 (E : Int)] 54)
  have hg := (hE.below k0).glob 4 (by decide)
  obtain ⟨a1, a2, a3, a4⟩ := two_cells h0
  have K0 := Bx.mk k0
  unfold sv
  clear k0 h0 hE
  go_enter Tryz.func82, Tryz.ntmps82
  go_upto_region 1 with (fail)
  change Code.wp _ _ _ _ (w.alloc (.cells #[.int .u64 (B : Int), .int .u64 (E : Int)] 54))
  generalize w.alloc (.cells #[.int .u64 (B : Int), .int .u64 (E : Int)] 54) = W at a1 a2 a3 a4 hg K0 ⊢
  rw [show eg 4 = 3 from rfl] at hg
  have ends : ∀ k, Below w.heap.size w (W.drewN k) := fun k => below_drewN K0.out k
  have ENDS := Bx.mk ends
  clear ends
  by_cases c1 : (E : Int) < (B : Int)
  · clear hbad
    go_wp2_with fail
    go_quiet (fail)
    go_wp2_with fail
    go_ret2
    exact ⟨rfl, ENDS.out _⟩
  · have c2 : (9223372036854775808 : Int) < (E : Int) := by omega
    clear hbad
    go_wp2_with fail
    go_quiet (fail)
    go_wp2_with fail
    go_ret2
    exact ⟨rfl, ENDS.out _⟩
set_option maxHeartbeats 1600000 in
theorem rload_range (A : Nat → Addr) (w : World) (B E : Nat) (hbad : E < B ∨ 9223372036854775808 < E) (ha : Option Addr) (n hc : Nat) (hE : Errs w A) :
    Calls Tryz.prog 13 #[sv B E, .slice ha n hc] w fun e w' => e = .returned (.tuple #[.pointer none, .iface 282 (.pointer (some (A 4)))]) ∧ Below w.heap.size w w' := by
  have kb := er_al (Below.refl w.heap.size w) (.cells #[.int .u64 (B : Int), .int .u64 (E : Int)] 54)
  have xN := heap_alloc_new w (.cells #[.int .u64 (B : Int), .int .u64 (E : Int)] 54)
  have c2 := cover_bad A (w.alloc (.cells #[.int .u64 (B : Int), .int .u64 (E : Int)] 54)) B E hbad (hE.below kb)
  unfold sv at c2 ⊢
  go_enter Tryz.func13, Tryz.ntmps13
  go_upto_region 1 with (fail)
  change Code.wp _ _ _ _ (w.alloc (.cells #[.int .u64 (B : Int), .int .u64 (E : Int)] 54))
  generalize w.alloc (.cells #[.int .u64 (B : Int), .int .u64 (E : Int)] 54) = W0 at kb xN c2 ⊢
  obtain ⟨N, hN⟩ : ∃ N, N = w.heap.size := ⟨_, rfl⟩
  rw [← hN] at xN ⊢
  have KB := Bx.mk kb; have XN0 := Bx.mk xN; have C2 := Bx.mk c2
  clear kb xN hN c2 hbad hE
  go_wp2_with (guard_target =~ wpList _ _ _ (⟨some 12, _, _, _, _, _⟩ :: _) _ _; refine wpList_load_row rfl 54 (.tmp 2) rfl N rfl _ _ _ _ XN0.out Tryz.underlying54 rfl sizeS ?_)
  refine C2.out.mono ?_
  rintro e W6 ⟨rfl, hb⟩
  have K6 := Bx.mk (KB.out.trans (hb.mono KB.out.size))
  clear hb C2
  go_wp2_with fail
  go_ret2
  exact ⟨rfl, K6.out⟩
end Go.Proofs.YtgbafjmklefoiaaGreatDoor
end
section
namespace Go.Proofs.YtgbafjmklefoiaaGreatDoor
set_option maxRecDepth 100000
open Go.RowKit
theorem tile_leQ : ∀ {l : List (Nat × Nat)} {b e : Nat}, Tile b e l → b ≤ e
  | [], _, _, h => Nat.le_of_eq h
  | x :: l, b, e, h => by have := tile_leQ h.2.2; have := Nat.two_pow_pos x.1; omega
theorem tile_memQ : ∀ {l : List (Nat × Nat)} {b e : Nat}, Tile b e l → ∀ x ∈ l, x.1 ≤ 63 ∧ x.2 * 2 ^ x.1 + 2 ^ x.1 ≤ e
  | [], _, _, _, x, hx => by cases hx
  | y :: l, b, e, h, x, hx => by
    rcases List.mem_cons.1 hx with rfl | hx
    · have h3 := tile_leQ h.2.2
      have h2 := h.2.1
      exact ⟨h.1, by omega⟩
    · exact tile_memQ h.2.2 x hx
theorem cover_inQ {b e : Nat} (h : b ≤ e) (he : e ≤ 2 ^ 63) {x : Nat × Nat} (hx : x ∈ coverN b e) : x.1 ≤ 63 ∧ x.2 * 2 ^ x.1 + 2 ^ x.1 ≤ e := tile_memQ (cover_tile (e - b) (Nat.le_refl _) h he) x hx
theorem StC.le {B E : Nat} {l : List (Nat × Nat × List UInt8)} (h : StC B E l) : l.length ≤ 128 := by
  rcases h.2.1 with h1 | h1
  · exact Nat.le_trans h.len (cover_le h1)
  · subst h1
    have := h.len
    rw [coverN_nil (Nat.lt_irrefl _)] at this
    simp at this
    rw [this]; decide
theorem StC.idx {B E : Nat} {l : List (Nat × Nat × List UInt8)} (h : StC B E l) : ∀ x ∈ l, x.2.1 < 2 ^ 64 := by
  intro x hx
  have hc : coC x ∈ coverN B E := by rw [← h.2.2]; exact List.mem_map_of_mem hx
  rcases h.2.1 with h1 | h1
  · have h2 := (cover_inQ h.1 h1 hc).2
    have h3 : 1 ≤ 2 ^ (coC x).1 := Nat.one_le_two_pow
    have h4 : (coC x).2 * 1 ≤ (coC x).2 * 2 ^ (coC x).1 := Nat.mul_le_mul_left _ h3
    have h5 : (coC x).2 = x.2.1 := rfl
    omega
  · subst h1
    rw [coverN_nil (Nat.lt_irrefl _)] at hc
    cases hc
def updC {α : Type} (f : Nat → α) (j : Nat) (x : α) : Nat → α := fun i => if i = j then x else f i
theorem updC_at {α : Type} (f : Nat → α) (j : Nat) (x : α) : updC f j x j = x := if_pos rfl
theorem updC_ne {α : Type} {f : Nat → α} {j : Nat} {x : α} {i : Nat} (h : i ≠ j) : updC f j x i = f i := if_neg h
/-- four ranges of the program, four of the document -/
structure CD where
  r : Nat → Nat
  d : Nat → Nat
  B : Nat → Nat
  E : Nat → Nat
  l : Nat → List (Nat × Nat × List UInt8)
  sv : Nat → Value
  dv : Nat → Value
def CD.R (D : CD) (i k : Nat) : Prop := RaS (D.r i) (D.sv i) k
def CD.M (D : CD) (i k : Nat) : Prop := RmS (D.d i) (D.dv i) k
def CD.F (D : CD) (wb k : Nat) : Prop := k = wb ∨ ∃ i, i < 4 ∧ (D.R i k ∨ D.M i k)
def CD.cells (D : CD) : Array Value := #[.pointer (some ⟨D.r 0, 0, none⟩), .pointer (some ⟨D.r 1, 0, none⟩), .pointer (some ⟨D.r 2, 0, none⟩), .pointer (some ⟨D.r 3, 0, none⟩), .pointer (some ⟨D.d 0, 0, none⟩), .pointer (some ⟨D.d 1, 0, none⟩), .pointer (some ⟨D.d 2, 0, none⟩), .pointer (some ⟨D.d 3, 0, none⟩)]
structure CW (base : Nat) (w : World) (wb : Nat) (D : CD) : Prop where
  hb : w.heap[wb]? = some (.cells D.cells 30 (0, 0))
  bw : base ≤ wb
  ra : ∀ i, i < 4 → RaP base w (D.r i) (D.B i) (D.E i) (D.l i) (D.sv i)
  rm : ∀ i, i < 4 → RmP base w (D.d i) (D.B i) (D.E i) (D.l i) (D.dv i)
  st : ∀ i, i < 4 → StC (D.B i) (D.E i) (D.l i)
  e64 : ∀ i, i < 4 → D.E i < 2 ^ 64
  rr : ∀ i j, i < 4 → j < 4 → i ≠ j → ∀ k, D.R i k → ¬ D.R j k
  mm : ∀ i j, i < 4 → j < 4 → i ≠ j → ∀ k, D.M i k → ¬ D.M j k
  rmx : ∀ i j, i < 4 → j < 4 → ∀ k, D.R i k → ¬ D.M j k
  rw : ∀ i, i < 4 → ¬ D.R i wb ∧ ¬ D.M i wb
theorem CW.wblt {base : Nat} {w : World} {wb : Nat} {D : CD} (h : CW base w wb D) : wb < w.heap.size := (Array.getElem?_eq_some_iff.1 h.hb).1
theorem CW.lt {base : Nat} {w : World} {wb : Nat} {D : CD} (h : CW base w wb D) (k : Nat) (hk : D.F wb k) : k < w.heap.size := by
  rcases hk with rfl | ⟨i, hi, hk | hk⟩
  · exact h.wblt
  · exact (h.ra i hi).lt k hk
  · exact (h.rm i hi).lt k hk
theorem CW.ge {base : Nat} {w : World} {wb : Nat} {D : CD} (h : CW base w wb D) (k : Nat) (hk : D.F wb k) : base ≤ k := by
  rcases hk with rfl | ⟨i, hi, hk | hk⟩
  · exact h.bw
  · exact (h.ra i hi).ge k hk
  · exact (h.rm i hi).ge k hk
theorem CW.kept {base : Nat} {w w' : World} {wb : Nat} {D : CD} (h : CW base w wb D) {T : Nat → Prop} (k : Keep T w w') (hd : ∀ j, D.F wb j → ¬ T j) : CW base w' wb D :=
  ⟨(k.block wb h.wblt (hd wb (.inl rfl))).trans h.hb, h.bw, fun i hi => (h.ra i hi).kept k (fun j hj => hd j (.inr ⟨i, hi, .inl hj⟩)), fun i hi => (h.rm i hi).kept k (fun j hj => hd j (.inr ⟨i, hi, .inr hj⟩)), h.st, h.e64, h.rr, h.mm, h.rmx, h.rw⟩
theorem CW.below {base : Nat} {w w' : World} {wb : Nat} {D : CD} (h : CW base w wb D) (k : Below w.heap.size w w') : CW base w' wb D :=
  h.kept (Keep.of_below k (fun _ => False)) (fun _ _ e => e)
theorem CW.cR {base : Nat} {w : World} {wb : Nat} {D : CD} (h : CW base w wb D) {k : Nat} (hk : k < 4) : w.cell? ⟨wb, k, none⟩ = some (.pointer (some ⟨D.r k, 0, none⟩)) := by
  refine er_cellAt h.hb k _ ?_
  rcases (show k = 0 ∨ k = 1 ∨ k = 2 ∨ k = 3 by omega) with rfl | rfl | rfl | rfl <;> rfl
theorem CW.cM {base : Nat} {w : World} {wb : Nat} {D : CD} (h : CW base w wb D) {k : Nat} (hk : k < 4) : w.cell? ⟨wb, 4 + k, none⟩ = some (.pointer (some ⟨D.d k, 0, none⟩)) := by
  refine er_cellAt h.hb (4 + k) _ ?_
  rcases (show k = 0 ∨ k = 1 ∨ k = 2 ∨ k = 3 by omega) with rfl | rfl | rfl | rfl <;> rfl
def CD.put (D : CD) (i r' d' B' E' : Nat) (l' : List (Nat × Nat × List UInt8)) (s' t' : Value) : CD :=
  ⟨updC D.r i r', updC D.d i d', updC D.B i B', updC D.E i E', updC D.l i l', updC D.sv i s', updC D.dv i t'⟩
theorem CD.R_at (D : CD) (i r' d' B' E' : Nat) (l' : List (Nat × Nat × List UInt8)) (s' t' : Value) (k : Nat) : (D.put i r' d' B' E' l' s' t').R i k ↔ RaS r' s' k := by
  show RaS (updC D.r i r' i) (updC D.sv i s' i) k ↔ _
  rw [updC_at, updC_at]
theorem CD.M_at (D : CD) (i r' d' B' E' : Nat) (l' : List (Nat × Nat × List UInt8)) (s' t' : Value) (k : Nat) : (D.put i r' d' B' E' l' s' t').M i k ↔ RmS d' t' k := by
  show RmS (updC D.d i d' i) (updC D.dv i t' i) k ↔ _
  rw [updC_at, updC_at]
theorem CD.R_ne (D : CD) {i j : Nat} (h : j ≠ i) (r' d' B' E' : Nat) (l' : List (Nat × Nat × List UInt8)) (s' t' : Value) (k : Nat) : (D.put i r' d' B' E' l' s' t').R j k ↔ D.R j k := by
  show RaS (updC D.r i r' j) (updC D.sv i s' j) k ↔ _
  rw [updC_ne h, updC_ne h]; rfl
theorem CD.M_ne (D : CD) {i j : Nat} (h : j ≠ i) (r' d' B' E' : Nat) (l' : List (Nat × Nat × List UInt8)) (s' t' : Value) (k : Nat) : (D.put i r' d' B' E' l' s' t').M j k ↔ D.M j k := by
  show RmS (updC D.d i d' j) (updC D.dv i t' j) k ↔ _
  rw [updC_ne h, updC_ne h]; rfl
/-- one pair is another -/
theorem CW.put {base : Nat} {w w' : World} {wb : Nat} {D : CD} (h : CW base w wb D) {i : Nat} (hi : i < 4) {r' d' B' E' : Nat} {l' : List (Nat × Nat × List UInt8)} {s' t' : Value}
    (kp : Keep (fun j => j = wb ∨ D.R i j ∨ D.M i j) w w') (hb : w'.heap[wb]? = some (.cells (D.put i r' d' B' E' l' s' t').cells 30 (0, 0)))
    (hR : RaP base w' r' B' E' l' s') (hM : RmP base w' d' B' E' l' t') (hS : StC B' E' l') (hE : E' < 2 ^ 64)
    (f1 : ∀ j, RaS r' s' j → D.R i j ∨ w.heap.size ≤ j) (f2 : ∀ j, RmS d' t' j → D.M i j ∨ w.heap.size ≤ j) (f3 : ∀ j, RaS r' s' j → ¬ RmS d' t' j) :
    CW base w' wb (D.put i r' d' B' E' l' s' t') ∧ ∀ k, (D.put i r' d' B' E' l' s' t').F wb k → D.F wb k ∨ w.heap.size ≤ k := by
  have nR : ∀ j, j < 4 → j ≠ i → ∀ k, D.R j k → ¬ (k = wb ∨ D.R i k ∨ D.M i k) := fun j hj hji k hk e => by
    rcases e with rfl | e | e
    · exact (h.rw j hj).1 hk
    · exact h.rr j i hj hi hji k hk e
    · exact h.rmx j i hj hi k hk e
  have nM : ∀ j, j < 4 → j ≠ i → ∀ k, D.M j k → ¬ (k = wb ∨ D.R i k ∨ D.M i k) := fun j hj hji k hk e => by
    rcases e with rfl | e | e
    · exact (h.rw j hj).2 hk
    · exact h.rmx i j hi hj k e hk
    · exact h.mm j i hj hi hji k hk e
  have frR : ∀ j, j < 4 → ∀ k, w.heap.size ≤ k → ¬ D.R j k := fun j hj k hk e => by have := h.lt k (.inr ⟨j, hj, .inl e⟩); omega
  have frM : ∀ j, j < 4 → ∀ k, w.heap.size ≤ k → ¬ D.M j k := fun j hj k hk e => by have := h.lt k (.inr ⟨j, hj, .inr e⟩); omega
  have hwl := h.wblt
  refine ⟨⟨hb, h.bw, fun j hj => ?_, fun j hj => ?_, fun j hj => ?_, fun j hj => ?_, fun a b ha hb2 hab k h1 h2 => ?_, fun a b ha hb2 hab k h1 h2 => ?_, fun a b ha hb2 k h1 h2 => ?_, fun j hj => ?_⟩, fun k hk => ?_⟩
  · show RaP base w' (updC D.r i r' j) (updC D.B i B' j) (updC D.E i E' j) (updC D.l i l' j) (updC D.sv i s' j)
    by_cases e : j = i
    · subst e; rw [updC_at, updC_at, updC_at, updC_at, updC_at]; exact hR
    · rw [updC_ne e, updC_ne e, updC_ne e, updC_ne e, updC_ne e]; exact (h.ra j hj).kept kp (fun k hk => nR j hj e k hk)
  · show RmP base w' (updC D.d i d' j) (updC D.B i B' j) (updC D.E i E' j) (updC D.l i l' j) (updC D.dv i t' j)
    by_cases e : j = i
    · subst e; rw [updC_at, updC_at, updC_at, updC_at, updC_at]; exact hM
    · rw [updC_ne e, updC_ne e, updC_ne e, updC_ne e, updC_ne e]; exact (h.rm j hj).kept kp (fun k hk => nM j hj e k hk)
  · show StC (updC D.B i B' j) (updC D.E i E' j) (updC D.l i l' j)
    by_cases e : j = i
    · subst e; rw [updC_at, updC_at, updC_at]; exact hS
    · rw [updC_ne e, updC_ne e, updC_ne e]; exact h.st j hj
  · show updC D.E i E' j < 2 ^ 64
    by_cases e : j = i
    · subst e; rw [updC_at]; exact hE
    · rw [updC_ne e]; exact h.e64 j hj
  · by_cases ea : a = i
    · subst ea
      replace h2 := (CD.R_ne D (fun e => hab e.symm) _ _ _ _ _ _ _ k).1 h2
      rcases f1 k ((CD.R_at D _ _ _ _ _ _ _ _ k).1 h1) with h3 | h3
      · exact h.rr a b ha hb2 hab k h3 h2
      · exact frR b hb2 k h3 h2
    · replace h1 := (CD.R_ne D ea _ _ _ _ _ _ _ k).1 h1
      by_cases eb : b = i
      · subst eb
        rcases f1 k ((CD.R_at D _ _ _ _ _ _ _ _ k).1 h2) with h3 | h3
        · exact h.rr a b ha hb2 hab k h1 h3
        · exact frR a ha k h3 h1
      · exact h.rr a b ha hb2 hab k h1 ((CD.R_ne D eb _ _ _ _ _ _ _ k).1 h2)
  · by_cases ea : a = i
    · subst ea
      replace h2 := (CD.M_ne D (fun e => hab e.symm) _ _ _ _ _ _ _ k).1 h2
      rcases f2 k ((CD.M_at D _ _ _ _ _ _ _ _ k).1 h1) with h3 | h3
      · exact h.mm a b ha hb2 hab k h3 h2
      · exact frM b hb2 k h3 h2
    · replace h1 := (CD.M_ne D ea _ _ _ _ _ _ _ k).1 h1
      by_cases eb : b = i
      · subst eb
        rcases f2 k ((CD.M_at D _ _ _ _ _ _ _ _ k).1 h2) with h3 | h3
        · exact h.mm a b ha hb2 hab k h1 h3
        · exact frM a ha k h3 h1
      · exact h.mm a b ha hb2 hab k h1 ((CD.M_ne D eb _ _ _ _ _ _ _ k).1 h2)
  · by_cases ea : a = i
    · subst ea
      replace h1 := (CD.R_at D _ _ _ _ _ _ _ _ k).1 h1
      by_cases eb : b = a
      · subst eb
        exact f3 k h1 ((CD.M_at D _ _ _ _ _ _ _ _ k).1 h2)
      · replace h2 := (CD.M_ne D eb _ _ _ _ _ _ _ k).1 h2
        rcases f1 k h1 with h3 | h3
        · exact h.rmx a b ha hb2 k h3 h2
        · exact frM b hb2 k h3 h2
    · replace h1 := (CD.R_ne D ea _ _ _ _ _ _ _ k).1 h1
      by_cases eb : b = i
      · subst eb
        rcases f2 k ((CD.M_at D _ _ _ _ _ _ _ _ k).1 h2) with h3 | h3
        · exact h.rmx a b ha hb2 k h1 h3
        · exact frR a ha k h3 h1
      · exact h.rmx a b ha hb2 k h1 ((CD.M_ne D eb _ _ _ _ _ _ _ k).1 h2)
  · by_cases e : j = i
    · subst e
      refine ⟨fun h1 => ?_, fun h1 => ?_⟩
      · rcases f1 wb ((CD.R_at D _ _ _ _ _ _ _ _ wb).1 h1) with h3 | h3
        · exact (h.rw j hj).1 h3
        · omega
      · rcases f2 wb ((CD.M_at D _ _ _ _ _ _ _ _ wb).1 h1) with h3 | h3
        · exact (h.rw j hj).2 h3
        · omega
    · exact ⟨fun h1 => (h.rw j hj).1 ((CD.R_ne D e _ _ _ _ _ _ _ wb).1 h1), fun h1 => (h.rw j hj).2 ((CD.M_ne D e _ _ _ _ _ _ _ wb).1 h1)⟩
  · rcases hk with rfl | ⟨j, hj, hk | hk⟩
    · exact .inl (.inl rfl)
    · by_cases e : j = i
      · subst e
        exact (f1 k ((CD.R_at D _ _ _ _ _ _ _ _ k).1 hk)).imp (fun x => .inr ⟨j, hj, .inl x⟩) id
      · exact .inl (.inr ⟨j, hj, .inl ((CD.R_ne D e _ _ _ _ _ _ _ k).1 hk)⟩)
    · by_cases e : j = i
      · subst e
        exact (f2 k ((CD.M_at D _ _ _ _ _ _ _ _ k).1 hk)).imp (fun x => .inr ⟨j, hj, .inr x⟩) id
      · exact .inl (.inr ⟨j, hj, .inr ((CD.M_ne D e _ _ _ _ _ _ _ k).1 hk)⟩)
end Go.Proofs.YtgbafjmklefoiaaGreatDoor
end
section
namespace Go.Proofs.YtgbafjmklefoiaaGreatDoor
set_option maxRecDepth 100000
open Go.RowKit
def at9 (n : Int) : Nat := (((n.tmod 4) + 4).tmod 4).toNat
theorem at9_lt (n : Int) : at9 n < 4 := by
  unfold at9
  have := Int.tmod_lt_of_pos ((n.tmod 4) + 4) (show (0 : Int) < 4 by decide)
  omega
theorem at9_any (w : World) (n : Int) : Calls Tryz.prog 11 #[.int .i64 n] w fun e w' => e = .returned (.int .i64 (at9 n : Int)) ∧ w' = w := by
  go_enter Tryz.func11, Tryz.ntmps11
  go_wp2_with fail
  have h1 := Int.tmod_lt_of_pos n (show (0 : Int) < 4 by decide)
  have h2 := Int.lt_tmod_of_pos n (show (0 : Int) < 4 by decide)
  have e1 : wrap64 (n.tmod 4 + 4) = n.tmod 4 + 4 := by unfold wrap64; omega
  have e2 : ((at9 n : Nat) : Int) = (n.tmod 4 + 4).tmod 4 := by
    unfold at9
    rw [Int.toNat_of_nonneg]
    rw [Int.tmod_eq_emod_of_nonneg (by omega)]
    omega
  rw [e1, e2]
  go_ret
  exact ⟨rfl, rfl⟩
def head9 (hs : List (List UInt8)) : List UInt8 := hs.headD zero32'
set_option maxHeartbeats 1600000 in
theorem first9_any (w : World) (ha : Option Addr) (n hc : Nat) (hs : List (List UInt8)) (hH : Hss w (.slice ha n hc) hs) :
    Calls Tryz.prog 18 #[.slice ha n hc] w fun e w' => e = .returned (.agg (ocells (head9 hs))) ∧ Below w.heap.size w w' := by
  have hnl : n = hs.length := by obtain ⟨_, _, e, _, _⟩ := hH.len; cases e; omega
  have HL := Bx.mk hnl
  have HH := Bx.mk hH
  have kb := er_al (Below.refl w.heap.size w) (.cells zeros32 81)
  have xN := heap_alloc_new w (.cells zeros32 81)
  clear hH hnl
  go_enter Tryz.func18, Tryz.ntmps18
  go_upto_region 1 with (fail)
  change Code.wp _ _ _ _ (w.alloc (.cells zeros32 81))
  generalize w.alloc (.cells zeros32 81) = W at kb xN ⊢
  obtain ⟨N, hN⟩ : ∃ N, N = w.heap.size := ⟨_, rfl⟩
  rw [← hN] at xN ⊢
  have KB := Bx.mk kb; have XN := Bx.mk xN; have HN := Bx.mk hN
  clear kb xN hN
  cases hs with
  | nil =>
    obtain rfl : n = 0 := HL.out
    go_wp2_with (first
      | (guard_target =~ wpList _ _ _ (⟨some 6, _, _, _, _, _⟩ :: _) _ _; refine wpList_build_c (by simp [Region.wanted]) 81 #[] rfl (ocells zero32') (by simp only [List.map_toArray, List.map_nil]; exact built_zeroC) ?_)
      | (guard_target =~ wpList _ _ _ (⟨none, _, _, _, _, _⟩ :: _) _ _; refine wpList_store_row rfl 81 (.tmp 2) (.tmp 6) rfl N (ocells zero32') rfl rfl _ _ XN.out (hszL (by decide)) (by kernel_rfl) (ocells_one _) ?_))
    exact bodyPost_ret (results_cell_row rfl _ _ N _ (ocells zero32') _ _ rfl (setRow_heap _ _ _ _ _ _ XN.out) underH rfl (hszL (by decide))) rfl ⟨rfl, below_setRow KB.out (by have := HN.out; omega) _⟩
  | cons x t =>
    obtain ⟨m, rfl⟩ : ∃ m, n = m + 1 := ⟨t.length, HL.out⟩
    obtain ⟨-, -, -, Bq, oq, e, hbq, hrq, -⟩ := HH.out.at 0 (by simp)
    subst e
    have YL := Bx.mk (show x.length = 32 from HH.out.1 x (by simp))
    have RY := Bx.mk (show W.rangeAt Bq oq (bcells x) by have h1 := rangeAt_below hrq hbq KB.out; simpa using h1)
    have f1 : ¬ ((m : Int) + 1) = 0 := by omega
    have f2 : ¬ ((m : Int) + 1) ≤ 0 := by omega
    clear hrq hbq
    go_wp2_with (first
      | (guard_target =~ wpList _ _ _ (⟨some 9, _, _, _, _, _⟩ :: _) _ _; refine wpList_load_mid rfl 81 (.tmp 8) rfl Bq (oq) rfl (bcells x) _ RY.out underH rfl (hszB' YL.out) ?_)
      | (guard_target =~ wpList _ _ _ (⟨none, _, _, _, _, _⟩ :: _) _ _; refine wpList_store_row rfl 81 (.tmp 2) (.tmp 9) rfl N (ocells x) rfl rfl _ _ XN.out (hszL YL.out) (by rw [ocells_size, YL.out]; rfl) (ocells_one _) ?_))
    exact bodyPost_ret (results_cell_row rfl _ _ N _ (ocells x) _ _ rfl (setRow_heap _ _ _ _ _ _ XN.out) underH rfl (hszL YL.out)) rfl ⟨rfl, below_setRow KB.out (by have := HN.out; omega) _⟩
end Go.Proofs.YtgbafjmklefoiaaGreatDoor
end
