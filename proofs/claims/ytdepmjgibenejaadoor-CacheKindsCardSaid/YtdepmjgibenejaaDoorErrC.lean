/- An error of the program's: its number, its place (cartularylaw01.Code, At, Is). -/
import Derived.Test.YtdepmjgibenejaaDoorErrB
namespace Go.Proofs.YtdepmjgibenejaaDoor
open Go.RowKit
theorem er_cellAt {w : World} {g : Nat} {cs : Array Value} {T : TypeId} {fr : Nat × Nat} (h : w.heap[g]? = some (.cells cs T fr)) (j : Nat) (v : Value) (hv : cs[j]? = some v) : w.cell? ⟨g, j, none⟩ = some v := by
  simp [World.cell?, h, hv]
theorem er_cellNew (w : World) (v : Value) (t : TypeId) : (w.alloc (.cells #[v] t)).cell? ⟨w.heap.size, 0, none⟩ = some v := er_cellAt (heap_alloc_new _ _) 0 v rfl
theorem er_al {W w : World} (h : Below W.heap.size W w) (o : Obj) : Below W.heap.size W (w.alloc o) := h.alloc h.size o
/-- the blocks of the sixteen sentinels' variables -/
def eg (k : Nat) : Nat := [1, 0, 2, 3, 4, 5, 6, 7, 8, 9, 10, 11, 12, 13, 14, 15].getD k 0
/-- what a law keeps of the sentinels: each variable holds its own errorString -/
structure Errs (W : World) (A : Nat → Addr) : Prop where
  glob : ∀ k, k < 16 → W.cell? ⟨eg k, 0, none⟩ = some (.iface 127 (.pointer (some (A k))))
  block : ∀ k, k < 16 → ∃ c t, W.heap[(A k).block]? = some (.cells c t (0, 0))
  inj : ∀ i j, i < 16 → j < 16 → A i = A j → i = j
  ty : W.cell? ⟨16, 0, none⟩ = some (.iface 112 (.agg #[.pointer (some ⟨17, 25, none⟩)]))
theorem Errs.below {W W' : World} {A : Nat → Addr} (h : Errs W A) (k : Below W.heap.size W W') : Errs W' A where
  glob i hi := (k.cell (block_lt_of_cell (h.glob i hi))).trans (h.glob i hi)
  block i hi := by
    obtain ⟨c, t, hb⟩ := h.block i hi
    exact ⟨c, t, (k.block _ (Array.getElem?_eq_some_iff.1 hb).1).trans hb⟩
  inj := h.inj
  ty := (k.cell (block_lt_of_cell h.ty)).trans h.ty
/-- what the program hands out as an error: its number, its place -/
inductive ErrV (W : World) (A : Nat → Addr) : Value → Int → Option Int → Prop
  | no : ErrV W A .nilIface 0 none
  | plain (k : Nat) : k < 16 → ErrV W A (.iface 127 (.pointer (some (A k)))) ((k : Int) + 1) none
  | fault (k b o : Nat) (n : Int) : k < 16 → W.cell? ⟨b, o, none⟩ = some (.iface 127 (.pointer (some (A k)))) → W.cell? ⟨b, o + 1, none⟩ = some (.int .i64 n) →
      ErrV W A (.iface 90 (.pointer (some ⟨b, o, none⟩))) ((k : Int) + 1) (some n)
theorem ErrV.below {W W' : World} {A : Nat → Addr} {v : Value} {c : Int} {p : Option Int} (h : ErrV W A v c p) (k : Below W.heap.size W W') : ErrV W' A v c p := by
  cases h with
  | no => exact .no
  | plain i hi => exact .plain i hi
  | fault i b o n hi h1 h2 => exact .fault i b o n hi ((k.cell (block_lt_of_cell h1)).trans h1) ((k.cell (block_lt_of_cell h2)).trans h2)
theorem is_err {W : World} {A : Nat → Addr} (hE : Errs W A) {v : Value} {c : Int} {p : Option Int} (h : ErrV W A v c p) (j : Nat) (hj : j < 16) :
    Calls Tryd.prog 33 #[v, .iface 127 (.pointer (some (A j)))] W fun e w' => e = .returned (.bool (decide (c = (j : Int) + 1))) ∧ w' = W := by
  cases h with
  | no => exact (is_nil _ W).mono fun e w' ⟨h1, h2⟩ => ⟨by rw [h1, decide_eq_false (by omega)], h2⟩
  | plain k hk =>
    by_cases hjk : k = j
    · subst hjk
      exact (is_same _ W).mono fun e w' ⟨h1, h2⟩ => ⟨by rw [h1, decide_eq_true rfl], h2⟩
    · obtain ⟨ca, ta, ha⟩ := hE.block k hk
      obtain ⟨cb, tb, hb⟩ := hE.block j hj
      exact (is_other _ _ ca cb ta tb W (fun e => hjk (hE.inj _ _ hk hj e)) ha hb).mono fun e w' ⟨h1, h2⟩ => ⟨by rw [h1, decide_eq_false (by omega)], h2⟩
  | fault k b o n hk h1 h2 =>
    by_cases hjk : k = j
    · subst hjk
      exact (is_fault_same b o _ W h1).mono fun e w' ⟨h1, h2⟩ => ⟨by rw [h1, decide_eq_true rfl], h2⟩
    · obtain ⟨ca, ta, ha⟩ := hE.block k hk
      obtain ⟨cb, tb, hb⟩ := hE.block j hj
      exact (is_fault_other b o _ _ ca cb ta tb W h1 (fun e => hjk (hE.inj _ _ hk hj e)) ha hb).mono fun e w' ⟨h1, h2⟩ => ⟨by rw [h1, decide_eq_false (by omega)], h2⟩
theorem cells16 (A : Nat → Addr) (t : Nat) (ht : t < 16) : (#[.iface 127 (.pointer (some (A 0))), .iface 127 (.pointer (some (A 1))), .iface 127 (.pointer (some (A 2))), .iface 127 (.pointer (some (A 3))), .iface 127 (.pointer (some (A 4))), .iface 127 (.pointer (some (A 5))), .iface 127 (.pointer (some (A 6))), .iface 127 (.pointer (some (A 7))), .iface 127 (.pointer (some (A 8))), .iface 127 (.pointer (some (A 9))), .iface 127 (.pointer (some (A 10))), .iface 127 (.pointer (some (A 11))), .iface 127 (.pointer (some (A 12))), .iface 127 (.pointer (some (A 13))), .iface 127 (.pointer (some (A 14))), .iface 127 (.pointer (some (A 15)))] : Array Value)[t]? = some (.iface 127 (.pointer (some (A t)))) := by
  match t, ht with
  | 0, _ => rfl
  | 1, _ => rfl
  | 2, _ => rfl
  | 3, _ => rfl
  | 4, _ => rfl
  | 5, _ => rfl
  | 6, _ => rfl
  | 7, _ => rfl
  | 8, _ => rfl
  | 9, _ => rfl
  | 10, _ => rfl
  | 11, _ => rfl
  | 12, _ => rfl
  | 13, _ => rfl
  | 14, _ => rfl
  | 15, _ => rfl
  | n + 16, h => omega
set_option maxRecDepth 100000 in
set_option maxHeartbeats 4000000 in
theorem code_iface {W : World} {A : Nat → Addr} (hE : Errs W A) (u : TypeId) (x : Value) (k : Nat) (hk : k < 16) {p : Option Int} (h : ErrV W A (.iface u x) ((k : Int) + 1) p) :
    Calls Tryd.prog 31 #[.iface u x] W fun e w' => e = .returned (.int .i64 ((k : Int) + 1)) ∧ Below W.heap.size W w' := by
  have g0 : W.cell? ⟨1, 0, none⟩ = some (.iface 127 (.pointer (some (A 0)))) := hE.glob 0 (by decide)
  have g1 : W.cell? ⟨0, 0, none⟩ = some (.iface 127 (.pointer (some (A 1)))) := hE.glob 1 (by decide)
  have g2 : W.cell? ⟨2, 0, none⟩ = some (.iface 127 (.pointer (some (A 2)))) := hE.glob 2 (by decide)
  have g3 : W.cell? ⟨3, 0, none⟩ = some (.iface 127 (.pointer (some (A 3)))) := hE.glob 3 (by decide)
  have g4 : W.cell? ⟨4, 0, none⟩ = some (.iface 127 (.pointer (some (A 4)))) := hE.glob 4 (by decide)
  have g5 : W.cell? ⟨5, 0, none⟩ = some (.iface 127 (.pointer (some (A 5)))) := hE.glob 5 (by decide)
  have g6 : W.cell? ⟨6, 0, none⟩ = some (.iface 127 (.pointer (some (A 6)))) := hE.glob 6 (by decide)
  have g7 : W.cell? ⟨7, 0, none⟩ = some (.iface 127 (.pointer (some (A 7)))) := hE.glob 7 (by decide)
  have g8 : W.cell? ⟨8, 0, none⟩ = some (.iface 127 (.pointer (some (A 8)))) := hE.glob 8 (by decide)
  have g9 : W.cell? ⟨9, 0, none⟩ = some (.iface 127 (.pointer (some (A 9)))) := hE.glob 9 (by decide)
  have g10 : W.cell? ⟨10, 0, none⟩ = some (.iface 127 (.pointer (some (A 10)))) := hE.glob 10 (by decide)
  have g11 : W.cell? ⟨11, 0, none⟩ = some (.iface 127 (.pointer (some (A 11)))) := hE.glob 11 (by decide)
  have g12 : W.cell? ⟨12, 0, none⟩ = some (.iface 127 (.pointer (some (A 12)))) := hE.glob 12 (by decide)
  have g13 : W.cell? ⟨13, 0, none⟩ = some (.iface 127 (.pointer (some (A 13)))) := hE.glob 13 (by decide)
  have g14 : W.cell? ⟨14, 0, none⟩ = some (.iface 127 (.pointer (some (A 14)))) := hE.glob 14 (by decide)
  have g15 : W.cell? ⟨15, 0, none⟩ = some (.iface 127 (.pointer (some (A 15)))) := hE.glob 15 (by decide)
  have HE := Bx.mk hE; have HV := Bx.mk h
  clear hE h
  go_enter Tryd.func31, Tryd.ntmps31
  go_wp2_with fail
  have w0 := er_cellAt (heap_alloc_new W (.cells #[.iface 127 (.pointer (some (A 0))), .iface 127 (.pointer (some (A 1))), .iface 127 (.pointer (some (A 2))), .iface 127 (.pointer (some (A 3))), .iface 127 (.pointer (some (A 4))), .iface 127 (.pointer (some (A 5))), .iface 127 (.pointer (some (A 6))), .iface 127 (.pointer (some (A 7))), .iface 127 (.pointer (some (A 8))), .iface 127 (.pointer (some (A 9))), .iface 127 (.pointer (some (A 10))), .iface 127 (.pointer (some (A 11))), .iface 127 (.pointer (some (A 12))), .iface 127 (.pointer (some (A 13))), .iface 127 (.pointer (some (A 14))), .iface 127 (.pointer (some (A 15)))] 95))
  have b0 := (Below.refl W.heap.size W).alloc (Nat.le_refl _) (.cells #[.iface 127 (.pointer (some (A 0))), .iface 127 (.pointer (some (A 1))), .iface 127 (.pointer (some (A 2))), .iface 127 (.pointer (some (A 3))), .iface 127 (.pointer (some (A 4))), .iface 127 (.pointer (some (A 5))), .iface 127 (.pointer (some (A 6))), .iface 127 (.pointer (some (A 7))), .iface 127 (.pointer (some (A 8))), .iface 127 (.pointer (some (A 9))), .iface 127 (.pointer (some (A 10))), .iface 127 (.pointer (some (A 11))), .iface 127 (.pointer (some (A 12))), .iface 127 (.pointer (some (A 13))), .iface 127 (.pointer (some (A 14))), .iface 127 (.pointer (some (A 15)))] 95)
  generalize W.alloc (.cells #[.iface 127 (.pointer (some (A 0))), .iface 127 (.pointer (some (A 1))), .iface 127 (.pointer (some (A 2))), .iface 127 (.pointer (some (A 3))), .iface 127 (.pointer (some (A 4))), .iface 127 (.pointer (some (A 5))), .iface 127 (.pointer (some (A 6))), .iface 127 (.pointer (some (A 7))), .iface 127 (.pointer (some (A 8))), .iface 127 (.pointer (some (A 9))), .iface 127 (.pointer (some (A 10))), .iface 127 (.pointer (some (A 11))), .iface 127 (.pointer (some (A 12))), .iface 127 (.pointer (some (A 13))), .iface 127 (.pointer (some (A 14))), .iface 127 (.pointer (some (A 15)))] 95) = W1 at w0 b0 ⊢
  have W0 := Bx.mk w0; have B0 := Bx.mk b0; clear w0 b0 g0 g1 g2 g3 g4 g5 g6 g7 g8 g9 g10 g11 g12 g13 g14 g15
  go_loopw [4, 5] (fun n i wr => ∃ t : Nat, t ≤ 16 ∧ i = .int .i64 (t : Int) ∧ n = .int .i64 (if t ≤ k then -1 else (k : Int) + 1) ∧ wr = W1) (fun _ i _ => 16 - (intOf i).toNat)
  case atStart => exact ⟨0, by omega, rfl, by simp, rfl⟩
  case round =>
    obtain ⟨t, ht, rfl, rfl, rfl⟩ := hrel
    by_cases hlt : t < 16
    · have c0 : wr.cell? ⟨W.heap.size, t, none⟩ = some (.iface 127 (.pointer (some (A t)))) := W0.out t _ (cells16 A t hlt)
      have hc := is_err (HE.out.below B0.out) (HV.out.below B0.out) t hlt
      have HC := Bx.mk hc; clear hc
      generalize hn : (if t ≤ k then (-1 : Int) else (k : Int) + 1) = n
      have HN := Bx.mk hn; clear hn
      go_wp2_with fail
      refine HC.out.mono ?_
      rintro e w2 ⟨rfl, rfl⟩
      by_cases htk : t = k
      · subst htk
        rw [decide_eq_true rfl]
        obtain rfl : n = -1 := by have := HN.out; simp at this; exact this.symm
        go_wp2_with fail
        go_roundw
        case rel => exact ⟨t + 1, by omega, by go_num, by rw [if_neg (by omega)], trivial⟩
        case measure => simp [intOf]; omega
      · rw [decide_eq_false (by omega)]
        go_wp2_with fail
        go_roundw
        case rel => exact ⟨t + 1, by omega, by go_num, (by rw [← HN.out]; congr 1; by_cases h : t ≤ k; exact (if_pos h).trans (if_pos (by omega)).symm; exact (if_neg h).trans (if_neg (by omega)).symm), trivial⟩
        case measure => simp [intOf]; omega
    · obtain rfl : t = 16 := by omega
      have hn : (if 16 ≤ k then (-1 : Int) else (k : Int) + 1) = (k : Int) + 1 := if_neg (by omega)
      rw [hn]
      go_wp2_with fail
      go_ret
      exact ⟨rfl, B0.out⟩
/-- cartularylaw01.Code -/
theorem code_any {W : World} {A : Nat → Addr} (hE : Errs W A) {v : Value} {c : Int} {p : Option Int} (h : ErrV W A v c p) :
    Calls Tryd.prog 31 #[v] W fun e w' => e = .returned (.int .i64 c) ∧ Below W.heap.size W w' := by
  have h' := h
  cases h with
  | no =>
    clear hE h'
    go_enter Tryd.func31, Tryd.ntmps31
    go_wp2_with fail
    go_ret
    exact ⟨rfl, Below.refl _ _⟩
  | plain k hk => exact code_iface hE _ _ k hk h'
  | fault k b o n hk _ _ => exact code_iface hE _ _ k hk h'
set_option maxRecDepth 100000 in
set_option maxHeartbeats 4000000 in
/-- cartularylaw01.At -/
theorem at_any {W : World} {A : Nat → Addr} (hE : Errs W A) {v : Value} {c : Int} {p : Option Int} (h : ErrV W A v c p) :
    Calls Tryd.prog 30 #[v] W fun e w' => e = .returned (.tuple #[.int .i64 (p.getD 0), .bool p.isSome]) ∧ Below W.heap.size W w' := by
  have h0 := h
  cases h with
  | no =>
    have h1 := as_nil (.iface 92 (.pointer (some ⟨W.heap.size, 0, none⟩))) (W.alloc (.cells #[.pointer none] 90))
    have H1 := Bx.mk h1; have HE := Bx.mk hE; clear h1 hE h0
    go_enter Tryd.func30, Tryd.ntmps30
    go_wp2_with fail
    refine H1.out.mono ?_
    rintro e w2 ⟨rfl, rfl⟩
    go_wp2_with fail
    go_ret2
    exact ⟨rfl, (Below.refl _ _).alloc (Nat.le_refl _) _⟩
  | plain k hk =>
    have hb := (Below.refl W.heap.size W).alloc (Nat.le_refl _) (.cells #[.pointer none] 90)
    have h1 := as_miss (A k) ⟨W.heap.size, 0, none⟩ (W.alloc (.cells #[.pointer none] 90)) (hE.below hb).ty
    have H1 := Bx.mk h1; have HE := Bx.mk hE; clear h1 hE h0 hb
    go_enter Tryd.func30, Tryd.ntmps30
    go_wp2_with fail
    refine H1.out.mono ?_
    rintro e w2 ⟨rfl, hw2⟩
    have HW2 := Bx.mk hw2; clear hw2
    go_wp2_with fail
    go_ret2
    refine ⟨rfl, ?_⟩
    rw [HW2.out]
    unfold asWorld
    exact er_al (er_al (er_al (er_al (Below.refl _ _) _) _) _) _
  | fault k b o n hk h1 h2 =>
    have hlt := block_lt_of_cell h2
    have hb := (Below.refl W.heap.size W).alloc (Nat.le_refl _) (.cells #[.pointer none] 90)
    have ha := as_hit ⟨b, o, none⟩ ⟨W.heap.size, 0, none⟩ (.pointer none) (W.alloc (.cells #[.pointer none] 90)) (hE.below hb).ty (er_cellNew _ _ _) (by simp)
    have hk : Below W.heap.size W (((asWorld ⟨W.heap.size, 0, none⟩ (W.alloc (.cells #[.pointer none] 90))).alloc (.cells #[.pointer (some ⟨b, o, none⟩)] 90)).setCell ⟨W.heap.size, 0, none⟩ (.pointer (some ⟨b, o, none⟩))) := by
      unfold asWorld
      exact (er_al (er_al (er_al (er_al (er_al (Below.refl _ _) _) _) _) _) _).setCell (Nat.le_refl _) _
    have hc : (((asWorld ⟨W.heap.size, 0, none⟩ (W.alloc (.cells #[.pointer none] 90))).alloc (.cells #[.pointer (some ⟨b, o, none⟩)] 90)).setCell ⟨W.heap.size, 0, none⟩ (.pointer (some ⟨b, o, none⟩))).cell? ⟨W.heap.size, 0, none⟩ = some (.pointer (some ⟨b, o, none⟩)) := by
      unfold asWorld
      refine World.cell?_setCell_same _ _ _ (u := .pointer none) ?_
      rw [World.cell?_alloc_lt _ _ _ (by simp; omega), World.cell?_alloc_lt _ _ _ (by simp; omega), World.cell?_alloc_lt _ _ _ (by simp; omega), World.cell?_alloc_lt _ _ _ (by simp)]
      exact er_cellNew _ _ _
    generalize ((asWorld ⟨W.heap.size, 0, none⟩ (W.alloc (.cells #[.pointer none] 90))).alloc (.cells #[.pointer (some ⟨b, o, none⟩)] 90)).setCell ⟨W.heap.size, 0, none⟩ (.pointer (some ⟨b, o, none⟩)) = W2 at ha hk hc
    have hn : W2.cell? ⟨b, o + 1, none⟩ = some (.int .i64 n) := (hk.cell hlt).trans h2
    have H1 := Bx.mk ha; have HE := Bx.mk hE; have HK := Bx.mk hk; clear ha hE h0 hb hk h1 h2
    go_enter Tryd.func30, Tryd.ntmps30
    go_wp2_with fail
    refine H1.out.mono ?_
    rintro e w2 ⟨rfl, rfl⟩
    go_wp2_with fail
    go_ret2
    exact ⟨rfl, HK.out⟩
/-- cartularylaw01.Is -/
theorem isE_any {W : World} {A : Nat → Addr} (hE : Errs W A) {v : Value} {c : Int} {p : Option Int} (h : ErrV W A v c p) (q : Int) :
    Calls Tryd.prog 19 #[v, .int .i64 q] W fun e w' => e = .returned (.bool (decide (c = q) && (p.getD 0 == 0 || !p.isSome))) ∧ Below W.heap.size W w' := by
  have h1 := at_any hE h
  have h2 := fun w (k : Below W.heap.size W w) => code_any (hE.below k) (h.below k)
  have H1 := Bx.mk h1; have H2 := Bx.mk h2; clear h1 h2 hE h
  generalize hpn : p.getD 0 = n at *
  generalize hps : p.isSome = s at *
  have HN := Bx.mk hpn; have HS := Bx.mk hps; clear hpn hps
  go_enter Tryd.func19, Tryd.ntmps19
  go_wp2_with fail
  refine H1.out.mono ?_
  rintro e w1 ⟨rfl, hb⟩
  have HB := Bx.mk hb; clear hb
  go_wp2_with fail
  refine (H2.out _ HB.out).mono ?_
  rintro e w2 ⟨rfl, hb⟩
  have HB2 := Bx.mk hb; clear hb
  go_wp2_with fail
  all_goals go_ret
  all_goals refine ⟨?_, HB.out.trans (HB2.out.mono HB.out.size)⟩
  all_goals simp_all
end Go.Proofs.YtdepmjgibenejaaDoor
