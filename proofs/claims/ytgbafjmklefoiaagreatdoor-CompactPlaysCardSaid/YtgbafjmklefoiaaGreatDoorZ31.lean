/- cartularylaw09.alive. -/
import Derived.Test.YtgbafjmklefoiaaGreatDoorZ17
import Derived.Test.YtgbafjmklefoiaaGreatDoorZ08
import Derived.Test.YtgbafjmklefoiaaGreatDoorZ30
import Derived.Great.BuildSlice
namespace Go.Proofs.YtgbafjmklefoiaaGreatDoor
set_option maxRecDepth 100000
open Go.RowKit
def oneB (k : UInt8) : List UInt8 := k :: List.replicate 31 0
theorem built_oneC1 : Tryz.prog.built 81 [(0, .int .u8 1)] = some (ocells (oneB 1)) := by kernel_rfl
theorem built_oneC2 : Tryz.prog.built 81 [(0, .int .u8 2)] = some (ocells (oneB 2)) := by kernel_rfl
theorem built_oneC3 : Tryz.prog.built 81 [(0, .int .u8 3)] = some (ocells (oneB 3)) := by kernel_rfl
theorem oneB_length (k : UInt8) : (oneB k).length = 32 := by simp [oneB]
theorem built_spanC (x y : Int) : Tryz.prog.built 54 [(0, .int .u64 x), (1, .int .u64 y)] = some #[.int .u64 x, .int .u64 y] := by kernel_rfl
theorem al09_1 (X : List UInt8) : pushN [] (0, 0, X) = [(0, 0, X)] := rfl
theorem al09_2 (X Y : List UInt8) : pushN [(0, 0, X)] (0, 1, Y) = [(1, 0, nd X Y)] := by
  have := pushN_snoc [] (0, 0, X) (0, 1, Y)
  rw [List.nil_append] at this
  rw [this, if_pos (by show (upK 0 0 && upK 0 1 && decide (upL 0 0 = upL 0 1 ∧ upI 0 0 = upI 0 1)) = true; decide), pushN_nil]
  show [(upL 0 0, upI 0 0, nd X Y)] = _
  rw [show upL 0 0 = 1 by decide, show upI 0 0 = 0 by decide]
theorem al09_3 (X Y : List UInt8) : pushN [(1, 0, X)] (0, 2, Y) = [(1, 0, X), (0, 2, Y)] := by
  have := pushN_snoc [] (1, 0, X) (0, 2, Y)
  rw [List.nil_append] at this
  rw [this, if_neg (by show ¬ (upK 1 0 && upK 0 2 && decide (upL 1 0 = upL 0 2 ∧ upI 1 0 = upI 0 2)) = true; decide)]; rfl
theorem raS_not {base : Nat} {w : World} {r B E : Nat} {l : List (Nat × Nat × List UInt8)} {s : Value} (h : RaP base w r B E l s) {g : Nat} {c : Array Value} {fr : Nat × Nat} (h2 : w.heap[g]? = some (.cells c 81 fr)) : ¬ RaS r s g := by
  rintro (e | e)
  · subst e
    have h1 := h.hb
    rw [h2] at h1
    injection h1 with h1; injection h1 with _ h1; exact absurd h1 (by decide)
  · exact own_ne_blk h.own h2 (by decide) g e rfl
theorem fill_twoC {n : Nat} (pl : Nat → Option (Nat × Nat)) (Z : Array Value) (hZ : Z.size = n + n) (h0 : pl 0 = some (0, n)) (h1 : pl 1 = some (n, n)) (X Y : Array Value) (sa : X.size = n) (sb : Y.size = n) : Instr.fill pl Z [(0, .agg X), (1, .agg Y)] = some (X ++ Y) := by
  have e : Z = ([] ++ Z.toList).toArray := by simp
  rw [e, fill_put pl [] Z.toList 0 n (.agg X) X.toList _ h0 (by simp [Value.cells]) (by simpa using sa) (by rw [Array.length_toList]; omega)]
  rw [fill_put pl ([] ++ X.toList) (Z.toList.drop n) 1 n (.agg Y) Y.toList _ (by rw [h1]; simp [sa]) (by simp [Value.cells]) (by simpa using sb) (by rw [List.length_drop, Array.length_toList]; omega)]
  rw [Instr.fill]
  congr 1
  apply Array.ext'
  rw [List.drop_drop, List.drop_of_length_le (by rw [Array.length_toList]; omega)]
  simp
theorem bs_twoC (w : World) (a b : List UInt8) (ha : a.length = 32) (hb : b.length = 32) : (Instr.buildSlice 55 2 #[(0, .agg (ocells a)), (1, .agg (ocells b))]).run Tryz.prog w = .ok (.slice (some ⟨w.heap.size, 0, none⟩) 2 2) (w.alloc (.cells (ocells a ++ ocells b) 81)) := by
  obtain ⟨ie, z, hie, hz, hs⟩ := infoHz
  refine run_buildSlice w _ _ 2 _ (ocells a ++ ocells b) ie z underHs hie hz (by rw [hs]; decide) (by rw [hs]; decide) ?_
  rw [hs]
  exact fill_twoC _ _ (by simp) rfl rfl _ _ (by rw [ocells_size, ha]) (by rw [ocells_size, hb])
theorem run_bs_twoC {o : Oper} {a : Act} (w : World) (x y : Operand) (ho : o.op = .buildSlice 55 2 #[(0, x), (1, y)]) (p q : List UInt8) (hp : p.length = 32) (hq : q.length = 32) (hx : a.eval x = .agg (ocells p)) (hy : a.eval y = .agg (ocells q)) :
    (execOp a.eval o).run Tryz.prog w = .ok (.value (.slice (some ⟨w.heap.size, 0, none⟩) 2 2)) (w.alloc (.cells (ocells p ++ ocells q) 81)) := by
  have hr := bs_twoC w p q hp hq
  unfold execOp
  simp only [ho, List.map_toArray, List.map_cons, List.map_nil, hx, hy, Sem.run_bind, hr, Result.andThen_ok, Sem.run_pure]
theorem hss_builtC {own : Nat → Option Nat} {w : World} {v : Value} {n : Nat} {X : Array Value} {ps : List (List UInt8)} (h : BuiltV own w v n 81 X) (hX : X.toList = hcells ps) (hl : ∀ x ∈ ps, x.length = 32) (hn : n = ps.length) (hm : n ≤ 1024) : ∃ g, v = .slice (some ⟨g, 0, none⟩) n n ∧ Hss w (.slice (some ⟨g, 0, none⟩) n n) ps := by
  obtain ⟨g, rfl, _, hg⟩ := h
  have hs : X.size = n * 32 := by rw [← Array.length_toList, hX, hcells_length hl, hn]
  have hr : w.ownsRow 0 81 32 (.slice (some ⟨g, 0, none⟩) n n) n X.toList :=
    ⟨by simpa using hs, .inr ⟨g, n, X, rfl, Nat.zero_le _, hg, Nat.le_refl _, (by unfold maxLen; omega), hs, by rw [← hs, ← Array.length_toList, List.take_length]⟩⟩
  rw [hX] at hr
  exact ⟨g, rfl, hss_own hr hl hn⟩
def VG4 (r : Nat) (E0 : List UInt8) (oi : Nat) (v : Value) (own : Nat → Option Nat) (w : World) : Prop :=
  match oi with
  | 0 => v = .pointer (some ⟨r, 0, none⟩)
  | 1 => v = .tuple #[.agg (ocells (E0)), .nilIface]
  | 2 => v = .tuple #[.agg (ocells (E0)), .nilIface]
  | 3 => v = .agg (ocells (E0))
  | 4 => v = .nilIface
  | 5 => AllocV own w v 6 81 32
  | 6 => StoredV own w 6 81 (ocells (E0))
  | 7 => v = .nilIface
  | _ => True
def VG4mk : Nat → Option Nat := fun j => match j with | 6 => some 5 | _ => none
theorem VG4_mono (r : Nat) (E0 : List UInt8) (oi oj : Nat) (v : Value) (own : Nat → Option Nat) (w : World) (own' : Nat → Option Nat) (w' : World) (hij : oi ≠ oj)   (h : VG4 r E0 oj v own w) (r1 : Rel VG4mk oi own w own' w') : VG4 r E0 oj v own' w' := by
  unfold VG4 at h ⊢
  split at h
  · exact h
  · exact h
  · exact h
  · exact h
  · exact h
  · exact h.stable r1 rfl hij
  · exact h.stable r1 hij
  · exact h
  · trivial

def VG5 (_g2 : Nat) (E0 : List UInt8) (oi : Nat) (v : Value) (_own : Nat → Option Nat) (_w : World) : Prop :=
  match oi with
  | 0 => v = .nilIface
  | 1 => v = .bool false
  | 2 => v = .bool false
  | 3 => v = .agg (ocells (E0))
  | 4 => v = .agg (ocells (E0))
  | 5 => v = .bool false
  | 6 => v = .bool false
  | _ => True
def VG5mk : Nat → Option Nat := fun _ => none
theorem VG5_mono (g2 : Nat) (E0 : List UInt8) (oi oj : Nat) (v : Value) (own : Nat → Option Nat) (w : World) (own' : Nat → Option Nat) (w' : World) (hij : oi ≠ oj)   (h : VG5 g2 E0 oj v own w) (_r : Rel VG5mk oi own w own' w') : VG5 g2 E0 oj v own' w' := by
  unfold VG5 at h ⊢
  split at h
  · exact h
  · exact h
  · exact h
  · exact h
  · exact h
  · exact h
  · exact h
  · trivial

def VG7 (X : List UInt8) (oi : Nat) (v : Value) (own : Nat → Option Nat) (w : World) : Prop :=
  match oi with
  | 0 => v = .agg (ocells (X))
  | 1 => AllocV own w v 2 81 32
  | 2 => StoredV own w 2 81 (ocells (X))
  | _ => True
def VG7mk : Nat → Option Nat := fun j => match j with | 2 => some 1 | _ => none
theorem VG7_mono (X : List UInt8) (oi oj : Nat) (v : Value) (own : Nat → Option Nat) (w : World) (own' : Nat → Option Nat) (w' : World) (hij : oi ≠ oj)   (h : VG7 X oj v own w) (r : Rel VG7mk oi own w own' w') : VG7 X oj v own' w' := by
  unfold VG7 at h ⊢
  split at h
  · exact h
  · exact h.stable r rfl hij
  · exact h.stable r hij
  · trivial

def VG8 (Y : List UInt8) (oi : Nat) (v : Value) (own : Nat → Option Nat) (w : World) : Prop :=
  match oi with
  | 0 => v = .agg (ocells (Y))
  | 1 => AllocV own w v 2 81 32
  | 2 => StoredV own w 2 81 (ocells (Y))
  | _ => True
def VG8mk : Nat → Option Nat := fun j => match j with | 2 => some 1 | _ => none
theorem VG8_mono (Y : List UInt8) (oi oj : Nat) (v : Value) (own : Nat → Option Nat) (w : World) (own' : Nat → Option Nat) (w' : World) (hij : oi ≠ oj)   (h : VG8 Y oj v own w) (r : Rel VG8mk oi own w own' w') : VG8 Y oj v own' w' := by
  unfold VG8 at h ⊢
  split at h
  · exact h
  · exact h.stable r rfl hij
  · exact h.stable r hij
  · trivial

def VG9 (C : List UInt8) (oi : Nat) (v : Value) (own : Nat → Option Nat) (w : World) : Prop :=
  match oi with
  | 0 => v = .agg (ocells (C))
  | 1 => AllocV own w v 2 81 32
  | 2 => StoredV own w 2 81 (ocells (C))
  | _ => True
def VG9mk : Nat → Option Nat := fun j => match j with | 2 => some 1 | _ => none
theorem VG9_mono (C : List UInt8) (oi oj : Nat) (v : Value) (own : Nat → Option Nat) (w : World) (own' : Nat → Option Nat) (w' : World) (hij : oi ≠ oj)   (h : VG9 C oj v own w) (r : Rel VG9mk oi own w own' w') : VG9 C oj v own' w' := by
  unfold VG9 at h ⊢
  split at h
  · exact h
  · exact h.stable r rfl hij
  · exact h.stable r hij
  · trivial

def VG12 (r g2 : Nat) (R : List UInt8) (oi : Nat) (v : Value) (own : Nat → Option Nat) (w : World) : Prop :=
  match oi with
  | 0 => v = .pointer (some ⟨r, 0, none⟩)
  | 1 => v = .tuple #[.agg (ocells (R)), .nilIface]
  | 2 => v = .tuple #[.agg (ocells (R)), .nilIface]
  | 3 => v = .agg (ocells (R))
  | 4 => v = .nilIface
  | 5 => OutV own w (g2) 5 81 (ocells (R))
  | 6 => v = .nilIface
  | _ => True
def VG12mk : Nat → Option Nat := fun _ => none
theorem VG12_mono (r g2 : Nat) (R : List UInt8) (oi oj : Nat) (v : Value) (own : Nat → Option Nat) (w : World) (own' : Nat → Option Nat) (w' : World) (hij : oi ≠ oj)   (h : VG12 r g2 R oj v own w) (r1 : Rel VG12mk oi own w own' w') : VG12 r g2 R oj v own' w' := by
  unfold VG12 at h ⊢
  split at h
  · exact h
  · exact h
  · exact h
  · exact h
  · exact h
  · exact h.stable r1 hij
  · exact h
  · trivial

def VG14 (r _g2 _g4 _g5 _g6 : Nat) (X Y Z C R : List UInt8) (a7 : Option Addr) (c7 : Nat) (oi : Nat) (v : Value) (own : Nat → Option Nat) (w : World) : Prop :=
  match oi with
  | 0 => v = .nilIface
  | 1 => v = .bool true
  | 2 => v = .bool true
  | 3 => v = .pointer (some ⟨r, 0, none⟩)
  | 4 => v = .agg #[.int .u64 0, .int .u64 3]
  | 5 => v = .agg #[.int .u64 0, .int .u64 3]
  | 6 => v = .bool true
  | 7 => v = .bool true
  | 8 => v = .bool true
  | 9 => v = .slice a7 2 c7
  | 10 => v = .agg (ocells (X))
  | 11 => v = .agg (ocells (Y))
  | 12 => v = .agg (ocells (Z))
  | 13 => v = .agg (ocells (C))
  | 14 => BuiltV own w v 2 81 (ocells Z ++ ocells C)
  | 15 => v = .bool true
  | 16 => v = .bool true
  | 17 => v = .bool true
  | 18 => v = .agg (ocells (R))
  | 19 => v = .agg (ocells (X))
  | 20 => v = .agg (ocells (Y))
  | 21 => v = .agg (ocells (Z))
  | 22 => v = .agg (ocells (C))
  | 23 => v = .agg (ocells (R))
  | 24 => v = .bool true
  | 25 => v = .bool true
  | 26 => v = .bool true
  | _ => True
def VG14mk : Nat → Option Nat := fun _ => none
theorem VG14_mono (r g2 g4 g5 g6 : Nat) (X Y Z C R : List UInt8) (a7 : Option Addr) (c7 : Nat) (oi oj : Nat) (v : Value) (own : Nat → Option Nat) (w : World) (own' : Nat → Option Nat) (w' : World) (hij : oi ≠ oj)   (h : VG14 r g2 g4 g5 g6 X Y Z C R a7 c7 oj v own w) (r1 : Rel VG14mk oi own w own' w') : VG14 r g2 g4 g5 g6 X Y Z C R a7 c7 oj v own' w' := by
  unfold VG14 at h ⊢
  split at h
  · exact h
  · exact h
  · exact h
  · exact h
  · exact h
  · exact h
  · exact h
  · exact h
  · exact h
  · exact h
  · exact h
  · exact h
  · exact h
  · exact h
  · exact h.stable r1
  · exact h
  · exact h
  · exact h
  · exact h
  · exact h
  · exact h
  · exact h
  · exact h
  · exact h
  · exact h
  · exact h
  · exact h
  · trivial

set_option maxHeartbeats 4000000 in
theorem alive09_any (w : World) (h : TabS w) : Calls Tryz.prog 10 #[] w fun e w' => e = .returned (.bool true) ∧ Below w.heap.size w w' := by
  obtain ⟨E0, hE0⟩ : ∃ x, x = sha [] := ⟨_, rfl⟩
  have hE32 : E0.length = 32 := by rw [hE0]; exact sha_length _
  obtain ⟨X, hX⟩ : ∃ x, x = oneB 1 := ⟨_, rfl⟩
  obtain ⟨Y, hY⟩ : ∃ x, x = oneB 2 := ⟨_, rfl⟩
  obtain ⟨C, hC⟩ : ∃ x, x = oneB 3 := ⟨_, rfl⟩
  obtain ⟨Z, hZ⟩ : ∃ x, x = nd X Y := ⟨_, rfl⟩
  obtain ⟨R, hR⟩ : ∃ x, x = nd Z C := ⟨_, rfl⟩
  have E32 := Bx.mk hE32; have HE0 := Bx.mk hE0; have HX := Bx.mk hX; have HY := Bx.mk hY; have HC := Bx.mk hC; have HZ := Bx.mk hZ; have HR := Bx.mk hR; have HH := Bx.mk h
  have X32 := Bx.mk (show X.length = 32 by rw [hX]; exact oneB_length _); have Y32 := Bx.mk (show Y.length = 32 by rw [hY]; exact oneB_length _); have C32 := Bx.mk (show C.length = 32 by rw [hC]; exact oneB_length _)
  have Z32 := Bx.mk (show Z.length = 32 by rw [hZ]; exact nd_length _ _); have R32 := Bx.mk (show R.length = 32 by rw [hR]; exact nd_length _ _)
  clear hE0 hE32 hX hY hC hZ hR h
  go_enter Tryz.func10, Tryz.ntmps10
  go_wp2_with fail
  refine (rnew_any w 0).mono ?_
  rintro e u1 ⟨r, rfl, hb1, k1⟩
  have B0 := Bx.mk hb1; have K0 := Bx.mk k1; clear hb1 k1
  have CR : Bx (∀ u, Below u1.heap.size u1 u → Calls Tryz.prog 24 #[.pointer (some ⟨r, 0, none⟩)] u fun e w' => e = .returned (.tuple #[.agg (ocells E0), .nilIface]) ∧ Below u.heap.size u w') := ⟨fun u hu => by
    have c := rroot_any _ u r 0 [] _ (B0.out.below hu) (HH.out.below (K0.out.trans (hu.mono K0.out.size))) (by decide)
    rwa [show upC (hsC []) = sha [] from rfl, ← HE0.out, hv_agg] at c⟩
  have CE : Bx (∀ u, Below w.heap.size w u → Calls Tryz.prog 79 #[] u fun e w' => e = .returned (.agg (ocells E0)) ∧ Below u.heap.size u w') := ⟨fun u hu => by
    have c := empty_any u (HH.out.below hu)
    rwa [← HE0.out, hv_agg] at c⟩
  go_upto_region 4 with (fail)
  refine wp_region_seq8 (n := 75) VG4mk (fun _ => none) (VG4 r E0) (by kernel_rfl) rfl (fun _ _ => rfl) (fun _ _ _ _ h => by cases h) ?_ ?_ ?_
  · exact fun oi oj v own w own' w' hij h r1 => VG4_mono r E0 oi oj v own w own' w' (by omega)  h r1
  · intro oi o hi f u own hsame hsn hfr hlate hkeep8 hdep
    have hkeep := hkeep8 _ (Nat.le_refl _)
    have hb6 := hsn.below (B := u1.heap.size) (fun _ _ => rfl) (Nat.le_refl _)
    match oi, hi with
    | 0, hi =>
      cases (show some _ = some o from hi)
      have e1 : f.tmps.getD 1 undef = .pointer (some ⟨r, 0, none⟩) := hlate 1 (earlyS (by kernel_rfl))
      clear hdep hsame hi hlate hfr hkeep
      exact .inl ⟨wanted_none rfl, showsO_move hsn rfl _ rfl e1⟩
    | 1, hi =>
      cases (show some _ = some o from hi)
      have e12 : (f.tmps.getD 12 undef) = .pointer (some ⟨r, 0, none⟩) := depS (V := (VG4 r E0)) hdep 0 12 (by decide) (by kernel_rfl)
      clear hdep hsame hi hlate hfr hkeep
      have c := CR.out u hb6
      exact .inl ⟨wanted_none rfl, showsO_call1 hsn rfl 24 #[.pointer (some ⟨r, 0, none⟩)] (by simp only [execOp, Act.eval]; go_simp) (c) (fun _ => rfl)⟩
    | 2, hi =>
      cases (show some _ = some o from hi)
      have e13 : (f.tmps.getD 13 undef) = .tuple #[.agg (ocells (E0)), .nilIface] := depS (V := (VG4 r E0)) hdep 1 13 (by decide) (by kernel_rfl)
      clear hdep hsame hi hlate hfr hkeep
      exact .inl ⟨wanted_none rfl, showsO_move hsn rfl _ rfl e13⟩
    | 3, hi =>
      cases (show some _ = some o from hi)
      have e11 : (f.tmps.getD 11 undef) = .tuple #[.agg (ocells (E0)), .nilIface] := depS (V := (VG4 r E0)) hdep 2 11 (by decide) (by kernel_rfl)
      clear hdep hsame hi hlate hfr hkeep
      exact .inl ⟨wanted_none rfl, showsO_pure hsn rfl (.agg (ocells (E0))) (by simp only [execOp, Act.eval]; go_simp) rfl⟩
    | 4, hi =>
      cases (show some _ = some o from hi)
      have e11 : (f.tmps.getD 11 undef) = .tuple #[.agg (ocells (E0)), .nilIface] := depS (V := (VG4 r E0)) hdep 2 11 (by decide) (by kernel_rfl)
      clear hdep hsame hi hlate hfr hkeep
      exact .inl ⟨wanted_none rfl, showsO_pure hsn rfl (.nilIface) (by simp only [execOp, Act.eval]; go_simp) rfl⟩
    | 5, hi =>
      cases (show some _ = some o from hi)
      clear hdep hsame hi hlate hkeep
      exact .inl ⟨wanted_none rfl, showsO_alloc hsn hfr rfl zeros32 81 6 rfl (by simp only [execOp, Act.eval]; go_simp; rfl) (fun h => h)⟩
    | 6, hi =>
      cases (show some _ = some o from hi)
      have e2 : AllocV own u (f.tmps.getD 2 undef) 6 81 32 := depS (V := (VG4 r E0)) hdep 5 2 (by decide) (by kernel_rfl)
      have e14 : (f.tmps.getD 14 undef) = .agg (ocells (E0)) := depS (V := (VG4 r E0)) hdep 3 14 (by decide) (by kernel_rfl)
      clear hdep hsame hi hlate hfr hkeep
      exact .inl ⟨wanted_none rfl, showsO_store_alloc hsn rfl 81 (.tmp 2) (.tmp 14) rfl e2 (ocells (E0)) e14 (hszL E32.out) (by rw [ocells_size, E32.out]) (ocells_one _) (fun _ h => h)⟩
    | 7, hi =>
      cases (show some _ = some o from hi)
      have e15 : (f.tmps.getD 15 undef) = .nilIface := depS (V := (VG4 r E0)) hdep 4 15 (by decide) (by kernel_rfl)
      clear hdep hsame hi hlate hfr hkeep
      exact .inl ⟨wanted_none rfl, showsO_assign hsn rfl _ rfl e15⟩
    | n + 8, hi => exact absurd hi (by simp)
  intro f u2 own hsame hsn hall
  have q12 : f.tmps.getD 12 undef = .pointer (some ⟨r, 0, none⟩) := finO (V := (VG4 r E0)) hall 0 12 rfl
  have q13 : f.tmps.getD 13 undef = .tuple #[.agg (ocells (E0)), .nilIface] := finO (V := (VG4 r E0)) hall 1 13 rfl
  have q11 : f.tmps.getD 11 undef = .tuple #[.agg (ocells (E0)), .nilIface] := finO (V := (VG4 r E0)) hall 2 11 rfl
  have q14 : f.tmps.getD 14 undef = .agg (ocells (E0)) := finO (V := (VG4 r E0)) hall 3 14 rfl
  have q15 : f.tmps.getD 15 undef = .nilIface := finO (V := (VG4 r E0)) hall 4 15 rfl
  obtain ⟨g2, q2, o2, m2⟩ := AllocV.stored (finO (V := (VG4 r E0)) hall 5 2 rfl) (finN (V := (VG4 r E0)) hall 6 rfl)
  have q3 : f.tmps.getD 3 undef = .nilIface := finO (V := (VG4 r E0)) hall 7 3 rfl
  obtain rfl := frame_eq hsame [(12, .pointer (some ⟨r, 0, none⟩)), (13, .tuple #[.agg (ocells (E0)), .nilIface]), (11, .tuple #[.agg (ocells (E0)), .nilIface]), (14, .agg (ocells (E0))), (15, .nilIface), (2, .pointer (some ⟨g2, 0, none⟩)), (3, .nilIface)] (by kernel_rfl) ⟨q12, q13, q11, q14, q15, q2, q3, trivial⟩
  clear hall hsame q12 q13 q11 q14 q15 q2 q3
  simp only [List.foldl, List.setIfInBounds_toArray, List.set_cons_succ, List.set_cons_zero]
  have GE2 := Bx.mk (Nat.le_trans K0.out.size (hsn.ge o2 (fun _ _ h => by cases h)))
  have hb := hsn.below (B := u1.heap.size) (fun _ _ => rfl) (Nat.le_refl _)
  clear CR
  have K1 := Bx.mk (K0.out.trans (hb.mono K0.out.size)); have B1 := Bx.mk (B0.out.below hb)
  clear hb K0 B0
  clear hsn
  have M20 := Bx.mk m2; clear m2 o2
  go_upto_region 5 with (fail)
  refine wp_region_own8 (n := 75) VG5mk (fun _ => none) (VG5 g2 E0) (by kernel_rfl) (by kernel_rfl) rfl (fun _ _ => rfl) (fun j i hj _ => by cases hj) ?_ ?_ ?_
  · exact fun oi oj v own w own' w' hij _ h r => VG5_mono g2 E0 oi oj v own w own' w' hij h r
  · intro oi o hi f u own hsame hsn hfr hlate hkeep8 hdep
    have hkeep := hkeep8 _ (.inl rfl)
    have hb6 := hsn.below (B := u2.heap.size) (fun _ _ => rfl) (Nat.le_refl _)
    match oi, hi with
    | 0, hi =>
      cases (show some _ = some o from hi)
      have e3 : f.tmps.getD 3 undef = .nilIface := hsame.slot 3 (fun i o h => invB2_not 3 (by kernel_rfl) h)
      clear hdep hsame hi hlate hfr hkeep
      exact .inl ⟨wanted_none rfl, showsO_move hsn rfl _ rfl e3⟩
    | 1, hi =>
      cases (show some _ = some o from hi)
      have e16 : (f.tmps.getD 16 undef) = .nilIface := depO (V := (VG5 g2 E0)) hdep 0 16 (by kernel_rfl) (by kernel_rfl)
      clear hdep hsame hi hlate hfr hkeep
      exact .inl ⟨wanted_none rfl, showsO_pure hsn rfl (.bool false) (by simp only [execOp, Act.eval]; go_simp) rfl⟩
    | 2, hi =>
      cases (show some _ = some o from hi)
      have e17 : (f.tmps.getD 17 undef) = .bool false := depO (V := (VG5 g2 E0)) hdep 1 17 (by kernel_rfl) (by kernel_rfl)
      clear hdep hsame hi hlate hfr hkeep
      exact .inl ⟨wanted_none rfl, showsO_move hsn rfl _ rfl e17⟩
    | 3, hi =>
      cases (show some _ = some o from hi)
      have e2 : f.tmps.getD 2 undef = .pointer (some ⟨g2, 0, none⟩) := hsame.slot 2 (fun i o h => invB2_not 2 (by kernel_rfl) h)
      have eg : f.tmps.getD 18 undef = .bool false := depO (V := (VG5 g2 E0)) hdep 2 18 (by kernel_rfl) (by kernel_rfl)
      clear hdep hsame hi hlate hfr hkeep
      exact .inl ⟨wanted_of 2 rfl eg (by kernel_rfl), showsO_row hsn rfl 81 (.tmp 2) rfl g2 e2 (ocells (E0)) ((hb6.block _ (Array.getElem?_eq_some_iff.1 M20.out).1).trans M20.out) underH rfl (hszL E32.out) rfl⟩
    | 4, hi =>
      cases (show some _ = some o from hi)
      have eg : f.tmps.getD 18 undef = .bool false := depO (V := (VG5 g2 E0)) hdep 2 18 (by kernel_rfl) (by kernel_rfl)
      clear hdep hsame hi hlate hfr hkeep
      have c := CE.out u (K1.out.trans (hb6.mono K1.out.size))
      exact .inl ⟨wanted_of 2 rfl eg (by kernel_rfl), showsO_call1 hsn rfl 79 #[] (by simp only [execOp, Act.eval]; go_simp) (c) (fun _ => rfl)⟩
    | 5, hi =>
      cases (show some _ = some o from hi)
      have e19 : (f.tmps.getD 19 undef) = .agg (ocells (E0)) := depO (V := (VG5 g2 E0)) hdep 3 19 (by kernel_rfl) (by kernel_rfl)
      have e20 : (f.tmps.getD 20 undef) = .agg (ocells (E0)) := depO (V := (VG5 g2 E0)) hdep 4 20 (by kernel_rfl) (by kernel_rfl)
      have eg : f.tmps.getD 18 undef = .bool false := depO (V := (VG5 g2 E0)) hdep 2 18 (by kernel_rfl) (by kernel_rfl)
      clear hdep hsame hi hlate hfr hkeep
      have q := fun u => hv_neq u (E0) (E0) E32.out E32.out
      simp only [hv_agg, beq_self_eq_true, Bool.not_true] at q
      exact .inl ⟨wanted_of 2 rfl eg (by kernel_rfl), showsO_pure hsn rfl (.bool false) (by simp only [execOp, Act.eval]; go_simp) rfl⟩
    | 6, hi =>
      cases (show some _ = some o from hi)
      have e18 : (f.tmps.getD 18 undef) = .bool false := depO (V := (VG5 g2 E0)) hdep 2 18 (by kernel_rfl) (by kernel_rfl)
      have e21 : (f.tmps.getD 21 undef) = .bool false := depO (V := (VG5 g2 E0)) hdep 5 21 (by kernel_rfl) (by kernel_rfl)
      clear hdep hsame hi hlate hfr hkeep
      exact .inl ⟨wanted_none rfl, showsO_pure hsn rfl (.bool false) (by simp only [execOp, Act.eval]; go_simp) rfl⟩
    | n + 7, hi => exact absurd hi (by simp)
  intro f u3 own hsame hsn hall
  have q16 : f.tmps.getD 16 undef = .nilIface := finO (V := (VG5 g2 E0)) hall 0 16 rfl
  have q17 : f.tmps.getD 17 undef = .bool false := finO (V := (VG5 g2 E0)) hall 1 17 rfl
  have q18 : f.tmps.getD 18 undef = .bool false := finO (V := (VG5 g2 E0)) hall 2 18 rfl
  have q19 : f.tmps.getD 19 undef = .agg (ocells (E0)) := finO (V := (VG5 g2 E0)) hall 3 19 rfl
  have q20 : f.tmps.getD 20 undef = .agg (ocells (E0)) := finO (V := (VG5 g2 E0)) hall 4 20 rfl
  have q21 : f.tmps.getD 21 undef = .bool false := finO (V := (VG5 g2 E0)) hall 5 21 rfl
  have q22 : f.tmps.getD 22 undef = .bool false := finO (V := (VG5 g2 E0)) hall 6 22 rfl
  obtain rfl := frame_eq hsame [(16, .nilIface), (17, .bool false), (18, .bool false), (19, .agg (ocells (E0))), (20, .agg (ocells (E0))), (21, .bool false), (22, .bool false)] (by kernel_rfl) ⟨q16, q17, q18, q19, q20, q21, q22, trivial⟩
  clear hall hsame q16 q17 q18 q19 q20 q21 q22
  simp only [List.foldl, List.setIfInBounds_toArray, List.set_cons_succ, List.set_cons_zero]
  have hb := hsn.below (B := u2.heap.size) (fun _ _ => rfl) (Nat.le_refl _)
  have K2 := Bx.mk (K1.out.trans (hb.mono K1.out.size)); have B2 := Bx.mk (B1.out.below hb); have M21 := Bx.mk ((hb.block _ (Array.getElem?_eq_some_iff.1 M20.out).1).trans M20.out)
  clear hb K1 B1 M20
  clear hsn
  go_upto_region 7 with (fail)
  refine wp_region_seq8 (n := 75) VG7mk (fun _ => none) (VG7 X) (by kernel_rfl) rfl (fun _ _ => rfl) (fun _ _ _ _ h => by cases h) ?_ ?_ ?_
  · exact fun oi oj v own w own' w' hij h r => VG7_mono X oi oj v own w own' w' (by omega)  h r
  · intro oi o hi f u own hsame hsn hfr hlate hkeep8 hdep
    have hkeep := hkeep8 _ (Nat.le_refl _)
    have hb6 := hsn.below (B := u3.heap.size) (fun _ _ => rfl) (Nat.le_refl _)
    match oi, hi with
    | 0, hi =>
      cases (show some _ = some o from hi)
      clear hdep hsame hi hlate hfr hkeep
      exact .inl ⟨wanted_none rfl, showsO_build hsn rfl 81 #[(0, .const (.int .u8 1))] rfl (ocells X) (by simp only [List.map_toArray, List.map_cons, List.map_nil, Act.eval]; rw [HX.out]; exact built_oneC1) rfl⟩
    | 1, hi =>
      cases (show some _ = some o from hi)
      clear hdep hsame hi hlate hkeep
      exact .inl ⟨wanted_none rfl, showsO_alloc hsn hfr rfl zeros32 81 2 rfl (by simp only [execOp, Act.eval]; go_simp; rfl) (fun h => h)⟩
    | 2, hi =>
      cases (show some _ = some o from hi)
      have e4 : AllocV own u (f.tmps.getD 4 undef) 2 81 32 := depS (V := (VG7 X)) hdep 1 4 (by decide) (by kernel_rfl)
      have e23 : (f.tmps.getD 23 undef) = .agg (ocells (X)) := depS (V := (VG7 X)) hdep 0 23 (by decide) (by kernel_rfl)
      clear hdep hsame hi hlate hfr hkeep
      exact .inl ⟨wanted_none rfl, showsO_store_alloc hsn rfl 81 (.tmp 4) (.tmp 23) rfl e4 (ocells (X)) e23 (hszL X32.out) (by rw [ocells_size, X32.out]) (ocells_one _) (fun _ h => h)⟩
    | n + 3, hi => exact absurd hi (by simp)
  intro f u4 own hsame hsn hall
  have q23 : f.tmps.getD 23 undef = .agg (ocells (X)) := finO (V := (VG7 X)) hall 0 23 rfl
  obtain ⟨g4, q4, o4, m4⟩ := AllocV.stored (finO (V := (VG7 X)) hall 1 4 rfl) (finN (V := (VG7 X)) hall 2 rfl)
  obtain rfl := frame_eq hsame [(23, .agg (ocells (X))), (4, .pointer (some ⟨g4, 0, none⟩))] (by kernel_rfl) ⟨q23, q4, trivial⟩
  clear hall hsame q23 q4
  simp only [List.foldl, List.setIfInBounds_toArray, List.set_cons_succ, List.set_cons_zero]
  have N24 : Bx (¬ g4 = g2) := ⟨fun e => by have h1 := hsn.ge o4 (fun _ _ h => by cases h); have h2 := (Array.getElem?_eq_some_iff.1 M21.out).1; omega⟩
  have hb := hsn.below (B := u3.heap.size) (fun _ _ => rfl) (Nat.le_refl _)
  have K3 := Bx.mk (K2.out.trans (hb.mono K2.out.size)); have B3 := Bx.mk (B2.out.below hb); have M22 := Bx.mk ((hb.block _ (Array.getElem?_eq_some_iff.1 M21.out).1).trans M21.out)
  clear hb K2 B2 M21
  clear hsn
  have M40 := Bx.mk m4; clear m4 o4
  go_upto_region 8 with (fail)
  refine wp_region_seq8 (n := 75) VG8mk (fun _ => none) (VG8 Y) (by kernel_rfl) rfl (fun _ _ => rfl) (fun _ _ _ _ h => by cases h) ?_ ?_ ?_
  · exact fun oi oj v own w own' w' hij h r => VG8_mono Y oi oj v own w own' w' (by omega)  h r
  · intro oi o hi f u own hsame hsn hfr hlate hkeep8 hdep
    have hkeep := hkeep8 _ (Nat.le_refl _)
    have hb6 := hsn.below (B := u4.heap.size) (fun _ _ => rfl) (Nat.le_refl _)
    match oi, hi with
    | 0, hi =>
      cases (show some _ = some o from hi)
      clear hdep hsame hi hlate hfr hkeep
      exact .inl ⟨wanted_none rfl, showsO_build hsn rfl 81 #[(0, .const (.int .u8 2))] rfl (ocells Y) (by simp only [List.map_toArray, List.map_cons, List.map_nil, Act.eval]; rw [HY.out]; exact built_oneC2) rfl⟩
    | 1, hi =>
      cases (show some _ = some o from hi)
      clear hdep hsame hi hlate hkeep
      exact .inl ⟨wanted_none rfl, showsO_alloc hsn hfr rfl zeros32 81 2 rfl (by simp only [execOp, Act.eval]; go_simp; rfl) (fun h => h)⟩
    | 2, hi =>
      cases (show some _ = some o from hi)
      have e5 : AllocV own u (f.tmps.getD 5 undef) 2 81 32 := depS (V := (VG8 Y)) hdep 1 5 (by decide) (by kernel_rfl)
      have e24 : (f.tmps.getD 24 undef) = .agg (ocells (Y)) := depS (V := (VG8 Y)) hdep 0 24 (by decide) (by kernel_rfl)
      clear hdep hsame hi hlate hfr hkeep
      exact .inl ⟨wanted_none rfl, showsO_store_alloc hsn rfl 81 (.tmp 5) (.tmp 24) rfl e5 (ocells (Y)) e24 (hszL Y32.out) (by rw [ocells_size, Y32.out]) (ocells_one _) (fun _ h => h)⟩
    | n + 3, hi => exact absurd hi (by simp)
  intro f u5 own hsame hsn hall
  have q24 : f.tmps.getD 24 undef = .agg (ocells (Y)) := finO (V := (VG8 Y)) hall 0 24 rfl
  obtain ⟨g5, q5, o5, m5⟩ := AllocV.stored (finO (V := (VG8 Y)) hall 1 5 rfl) (finN (V := (VG8 Y)) hall 2 rfl)
  obtain rfl := frame_eq hsame [(24, .agg (ocells (Y))), (5, .pointer (some ⟨g5, 0, none⟩))] (by kernel_rfl) ⟨q24, q5, trivial⟩
  clear hall hsame q24 q5
  simp only [List.foldl, List.setIfInBounds_toArray, List.set_cons_succ, List.set_cons_zero]
  have N25 : Bx (¬ g5 = g2) := ⟨fun e => by have h1 := hsn.ge o5 (fun _ _ h => by cases h); have h2 := (Array.getElem?_eq_some_iff.1 M22.out).1; omega⟩
  have hb := hsn.below (B := u4.heap.size) (fun _ _ => rfl) (Nat.le_refl _)
  have K4 := Bx.mk (K3.out.trans (hb.mono K3.out.size)); have B4 := Bx.mk (B3.out.below hb); have M23 := Bx.mk ((hb.block _ (Array.getElem?_eq_some_iff.1 M22.out).1).trans M22.out); have M41 := Bx.mk ((hb.block _ (Array.getElem?_eq_some_iff.1 M40.out).1).trans M40.out)
  clear hb K3 B3 M22 M40
  clear hsn
  have M50 := Bx.mk m5; clear m5 o5
  go_upto_region 9 with (fail)
  refine wp_region_seq8 (n := 75) VG9mk (fun _ => none) (VG9 C) (by kernel_rfl) rfl (fun _ _ => rfl) (fun _ _ _ _ h => by cases h) ?_ ?_ ?_
  · exact fun oi oj v own w own' w' hij h r => VG9_mono C oi oj v own w own' w' (by omega)  h r
  · intro oi o hi f u own hsame hsn hfr hlate hkeep8 hdep
    have hkeep := hkeep8 _ (Nat.le_refl _)
    have hb6 := hsn.below (B := u5.heap.size) (fun _ _ => rfl) (Nat.le_refl _)
    match oi, hi with
    | 0, hi =>
      cases (show some _ = some o from hi)
      clear hdep hsame hi hlate hfr hkeep
      exact .inl ⟨wanted_none rfl, showsO_build hsn rfl 81 #[(0, .const (.int .u8 3))] rfl (ocells C) (by simp only [List.map_toArray, List.map_cons, List.map_nil, Act.eval]; rw [HC.out]; exact built_oneC3) rfl⟩
    | 1, hi =>
      cases (show some _ = some o from hi)
      clear hdep hsame hi hlate hkeep
      exact .inl ⟨wanted_none rfl, showsO_alloc hsn hfr rfl zeros32 81 2 rfl (by simp only [execOp, Act.eval]; go_simp; rfl) (fun h => h)⟩
    | 2, hi =>
      cases (show some _ = some o from hi)
      have e6 : AllocV own u (f.tmps.getD 6 undef) 2 81 32 := depS (V := (VG9 C)) hdep 1 6 (by decide) (by kernel_rfl)
      have e25 : (f.tmps.getD 25 undef) = .agg (ocells (C)) := depS (V := (VG9 C)) hdep 0 25 (by decide) (by kernel_rfl)
      clear hdep hsame hi hlate hfr hkeep
      exact .inl ⟨wanted_none rfl, showsO_store_alloc hsn rfl 81 (.tmp 6) (.tmp 25) rfl e6 (ocells (C)) e25 (hszL C32.out) (by rw [ocells_size, C32.out]) (ocells_one _) (fun _ h => h)⟩
    | n + 3, hi => exact absurd hi (by simp)
  intro f u6 own hsame hsn hall
  have q25 : f.tmps.getD 25 undef = .agg (ocells (C)) := finO (V := (VG9 C)) hall 0 25 rfl
  obtain ⟨g6, q6, o6, m6⟩ := AllocV.stored (finO (V := (VG9 C)) hall 1 6 rfl) (finN (V := (VG9 C)) hall 2 rfl)
  obtain rfl := frame_eq hsame [(25, .agg (ocells (C))), (6, .pointer (some ⟨g6, 0, none⟩))] (by kernel_rfl) ⟨q25, q6, trivial⟩
  clear hall hsame q25 q6
  simp only [List.foldl, List.setIfInBounds_toArray, List.set_cons_succ, List.set_cons_zero]
  have N26 : Bx (¬ g6 = g2) := ⟨fun e => by have h1 := hsn.ge o6 (fun _ _ h => by cases h); have h2 := (Array.getElem?_eq_some_iff.1 M23.out).1; omega⟩
  have hb := hsn.below (B := u5.heap.size) (fun _ _ => rfl) (Nat.le_refl _)
  have K5 := Bx.mk (K4.out.trans (hb.mono K4.out.size)); have B5 := Bx.mk (B4.out.below hb); have M24 := Bx.mk ((hb.block _ (Array.getElem?_eq_some_iff.1 M23.out).1).trans M23.out); have M42 := Bx.mk ((hb.block _ (Array.getElem?_eq_some_iff.1 M41.out).1).trans M41.out); have M51 := Bx.mk ((hb.block _ (Array.getElem?_eq_some_iff.1 M50.out).1).trans M50.out)
  clear hb K4 B4 M23 M41 M50
  clear hsn
  have M60 := Bx.mk m6; clear m6 o6
  go_upto_region 10 with (fail)
  have ca := rapp_any w.heap.size u6 r 0 0 [] (.slice none 0 0) B5.out X X32.out (fun u hu => HH.out.below (K5.out.trans hu)) K5.out.size (by simp) (by decide)
  rw [hv_agg, al09_1] at ca
  have CA := Bx.mk ca; clear ca
  go_wp2_with (guard_target =~ wpList _ _ _ (⟨some 27, _, _, _, _, _⟩ :: _) _ _; refine wpList_load_row rfl 81 (.tmp 4) rfl g4 rfl _ _ _ _ M42.out underH rfl (hszL X32.out) ?_)
  refine CA.out.mono ?_
  rintro e u7 ⟨rfl, s1, hR, hk, -⟩
  have hb := hk.below (B := w.heap.size) K5.out.size (fun k h => B5.out.ge k h)
  clear CA
  have M25 := Bx.mk ((hk.block _ (Array.getElem?_eq_some_iff.1 M24.out).1 (raS_not B5.out M24.out)).trans M24.out)
  have M43 := Bx.mk ((hk.block _ (Array.getElem?_eq_some_iff.1 M42.out).1 (raS_not B5.out M42.out)).trans M42.out)
  have M52 := Bx.mk ((hk.block _ (Array.getElem?_eq_some_iff.1 M51.out).1 (raS_not B5.out M51.out)).trans M51.out)
  have M61 := Bx.mk ((hk.block _ (Array.getElem?_eq_some_iff.1 M60.out).1 (raS_not B5.out M60.out)).trans M60.out)
  have K6 := Bx.mk (K5.out.trans hb)
  have B6 := Bx.mk hR
  clear M24 M42 M51 M60 K5 B5 hb hk hR
  have ca := rapp_any w.heap.size u7 r 0 1 [(0, 0, X)] s1 B6.out Y Y32.out (fun u hu => HH.out.below (K6.out.trans hu)) K6.out.size (by simp) (by decide)
  rw [hv_agg, al09_2, ← HZ.out] at ca
  have CA := Bx.mk ca; clear ca
  go_wp2_with (guard_target =~ wpList _ _ _ (⟨some 32, _, _, _, _, _⟩ :: _) _ _; refine wpList_load_row_w (by simp [Region.wanted, yielded]) 81 (.tmp 5) rfl g5 rfl _ _ _ _ M52.out underH rfl (hszL Y32.out) ?_)
  refine CA.out.mono ?_
  rintro e u8 ⟨rfl, s2, hR, hk, -⟩
  have hb := hk.below (B := w.heap.size) K6.out.size (fun k h => B6.out.ge k h)
  clear CA
  have M26 := Bx.mk ((hk.block _ (Array.getElem?_eq_some_iff.1 M25.out).1 (raS_not B6.out M25.out)).trans M25.out)
  have M44 := Bx.mk ((hk.block _ (Array.getElem?_eq_some_iff.1 M43.out).1 (raS_not B6.out M43.out)).trans M43.out)
  have M53 := Bx.mk ((hk.block _ (Array.getElem?_eq_some_iff.1 M52.out).1 (raS_not B6.out M52.out)).trans M52.out)
  have M62 := Bx.mk ((hk.block _ (Array.getElem?_eq_some_iff.1 M61.out).1 (raS_not B6.out M61.out)).trans M61.out)
  have K7 := Bx.mk (K6.out.trans hb)
  have B7 := Bx.mk hR
  clear M25 M43 M52 M61 K6 B6 hb hk hR
  have ca := rapp_any w.heap.size u8 r 0 2 [(1, 0, Z)] s2 B7.out C C32.out (fun u hu => HH.out.below (K7.out.trans hu)) K7.out.size (by simp) (by decide)
  rw [hv_agg, al09_3] at ca
  have CA := Bx.mk ca; clear ca
  go_wp2_with (guard_target =~ wpList _ _ _ (⟨some 38, _, _, _, _, _⟩ :: _) _ _; refine wpList_load_row_w (by simp [Region.wanted, yielded]) 81 (.tmp 6) rfl g6 rfl _ _ _ _ M62.out underH rfl (hszL C32.out) ?_)
  refine CA.out.mono ?_
  rintro e u9 ⟨rfl, s3, hR, hk, -⟩
  have hb := hk.below (B := w.heap.size) K7.out.size (fun k h => B7.out.ge k h)
  clear CA
  have M27 := Bx.mk ((hk.block _ (Array.getElem?_eq_some_iff.1 M26.out).1 (raS_not B7.out M26.out)).trans M26.out)
  have M45 := Bx.mk ((hk.block _ (Array.getElem?_eq_some_iff.1 M44.out).1 (raS_not B7.out M44.out)).trans M44.out)
  have M54 := Bx.mk ((hk.block _ (Array.getElem?_eq_some_iff.1 M53.out).1 (raS_not B7.out M53.out)).trans M53.out)
  have M63 := Bx.mk ((hk.block _ (Array.getElem?_eq_some_iff.1 M62.out).1 (raS_not B7.out M62.out)).trans M62.out)
  have K8 := Bx.mk (K7.out.trans hb)
  have B8 := Bx.mk hR
  clear M26 M44 M53 M62 K7 B7 hb hk hR
  have NR : Bx (∀ j, RaS r s3 j → ¬ j = g2) := ⟨fun j hj e => raS_not B8.out M27.out (e ▸ hj)⟩
  have CR : Bx (∀ u, Keep (fun k => k = g2) u9 u → Calls Tryz.prog 24 #[.pointer (some ⟨r, 0, none⟩)] u fun e w' => e = .returned (.tuple #[.agg (ocells R), .nilIface]) ∧ Below u.heap.size u w') := ⟨fun u hu => by
    have c := rroot_any _ u r 3 [(1, 0, Z), (0, 2, C)] _ (B8.out.kept hu NR.out) (HH.out.below (K8.out.trans (hu.below (B := w.heap.size) K8.out.size (fun k hk => hk ▸ GE2.out)))) (by simp)
    rwa [show upC (hsC [(1, 0, Z), (0, 2, C)]) = nd Z C from rfl, ← HR.out, hv_agg] at c⟩
  go_upto_region 12 with (fail)
  refine wp_region_seq8 (n := 75) VG12mk (fun k => if k = g2 then some 5 else none) (VG12 r g2 R) (by kernel_rfl) rfl (fun k hk => if_neg (by have := (Array.getElem?_eq_some_iff.1 M27.out).1; omega)) (fun j i hj _ => by cases hj) ?_ ?_ ?_
  · exact fun oi oj v own w own' w' hij h r1 => VG12_mono r g2 R oi oj v own w own' w' (by omega)  h r1
  · intro oi o hi f u own hsame hsn hfr hlate hkeep8 hdep
    have hkeep := hkeep8 _ (Nat.le_refl _)
    have hk6 := hsn.keepOne
    match oi, hi with
    | 0, hi =>
      cases (show some _ = some o from hi)
      have e1 : f.tmps.getD 1 undef = .pointer (some ⟨r, 0, none⟩) := hlate 1 (earlyS (by kernel_rfl))
      clear hdep hsame hi hlate hfr hkeep
      exact .inl ⟨wanted_none rfl, showsO_move hsn rfl _ rfl e1⟩
    | 1, hi =>
      cases (show some _ = some o from hi)
      have e43 : (f.tmps.getD 43 undef) = .pointer (some ⟨r, 0, none⟩) := depS (V := (VG12 r g2 R)) hdep 0 43 (by decide) (by kernel_rfl)
      clear hdep hsame hi hlate hfr hkeep
      have c := CR.out u hk6
      exact .inl ⟨wanted_none rfl, showsO_call1 hsn rfl 24 #[.pointer (some ⟨r, 0, none⟩)] (by simp only [execOp, Act.eval]; go_simp) (c) (fun _ => rfl)⟩
    | 2, hi =>
      cases (show some _ = some o from hi)
      have e44 : (f.tmps.getD 44 undef) = .tuple #[.agg (ocells (R)), .nilIface] := depS (V := (VG12 r g2 R)) hdep 1 44 (by decide) (by kernel_rfl)
      clear hdep hsame hi hlate hfr hkeep
      exact .inl ⟨wanted_none rfl, showsO_move hsn rfl _ rfl e44⟩
    | 3, hi =>
      cases (show some _ = some o from hi)
      have e42 : (f.tmps.getD 42 undef) = .tuple #[.agg (ocells (R)), .nilIface] := depS (V := (VG12 r g2 R)) hdep 2 42 (by decide) (by kernel_rfl)
      clear hdep hsame hi hlate hfr hkeep
      exact .inl ⟨wanted_none rfl, showsO_pure hsn rfl (.agg (ocells (R))) (by simp only [execOp, Act.eval]; go_simp) rfl⟩
    | 4, hi =>
      cases (show some _ = some o from hi)
      have e42 : (f.tmps.getD 42 undef) = .tuple #[.agg (ocells (R)), .nilIface] := depS (V := (VG12 r g2 R)) hdep 2 42 (by decide) (by kernel_rfl)
      clear hdep hsame hi hlate hfr hkeep
      exact .inl ⟨wanted_none rfl, showsO_pure hsn rfl (.nilIface) (by simp only [execOp, Act.eval]; go_simp) rfl⟩
    | 5, hi =>
      cases (show some _ = some o from hi)
      have e2 : f.tmps.getD 2 undef = .pointer (some ⟨g2, 0, none⟩) := hlate 2 (earlyS (by kernel_rfl))
      have e45 : (f.tmps.getD 45 undef) = .agg (ocells (R)) := depS (V := (VG12 r g2 R)) hdep 3 45 (by decide) (by kernel_rfl)
      clear hdep hsame hi hlate hfr hkeep
      exact .inl ⟨wanted_none rfl, showsO_store_out hsn rfl 81 (.tmp 2) (.tmp 45) rfl (g2) e2 M27.out (if_pos rfl) (ocells (R)) e45 (hszL R32.out) (by rw [ocells_size, ocells_size, E32.out, R32.out]) (ocells_one _) (fun _ h => h)⟩
    | 6, hi =>
      cases (show some _ = some o from hi)
      have e46 : (f.tmps.getD 46 undef) = .nilIface := depS (V := (VG12 r g2 R)) hdep 4 46 (by decide) (by kernel_rfl)
      clear hdep hsame hi hlate hfr hkeep
      exact .inl ⟨wanted_none rfl, showsO_assign hsn rfl _ rfl e46⟩
    | n + 7, hi => exact absurd hi (by simp)
  intro f u10 own hsame hsn hall
  have q43 : f.tmps.getD 43 undef = .pointer (some ⟨r, 0, none⟩) := finO (V := (VG12 r g2 R)) hall 0 43 rfl
  have q44 : f.tmps.getD 44 undef = .tuple #[.agg (ocells (R)), .nilIface] := finO (V := (VG12 r g2 R)) hall 1 44 rfl
  have q42 : f.tmps.getD 42 undef = .tuple #[.agg (ocells (R)), .nilIface] := finO (V := (VG12 r g2 R)) hall 2 42 rfl
  have q45 : f.tmps.getD 45 undef = .agg (ocells (R)) := finO (V := (VG12 r g2 R)) hall 3 45 rfl
  have q46 : f.tmps.getD 46 undef = .nilIface := finO (V := (VG12 r g2 R)) hall 4 46 rfl
  obtain ⟨o_5, m_5⟩ : OutV own u10 (g2) 5 81 (ocells (R)) := finN (V := (VG12 r g2 R)) hall 5 rfl
  have q3 : f.tmps.getD 3 undef = .nilIface := finO (V := (VG12 r g2 R)) hall 6 3 rfl
  obtain rfl := frame_eq hsame [(43, .pointer (some ⟨r, 0, none⟩)), (44, .tuple #[.agg (ocells (R)), .nilIface]), (42, .tuple #[.agg (ocells (R)), .nilIface]), (45, .agg (ocells (R))), (46, .nilIface), (3, .nilIface)] (by kernel_rfl) ⟨q43, q44, q42, q45, q46, q3, trivial⟩
  clear hall hsame q43 q44 q42 q45 q46 q3
  simp only [List.foldl, List.setIfInBounds_toArray, List.set_cons_succ, List.set_cons_zero]
  have hk := hsn.keepOne
  have hb := hk.below (B := w.heap.size) K8.out.size (fun k h => h ▸ GE2.out)
  have M46 := Bx.mk ((hk.block _ (Array.getElem?_eq_some_iff.1 M45.out).1 N24.out).trans M45.out)
  have M55 := Bx.mk ((hk.block _ (Array.getElem?_eq_some_iff.1 M54.out).1 N25.out).trans M54.out)
  have M64 := Bx.mk ((hk.block _ (Array.getElem?_eq_some_iff.1 M63.out).1 N26.out).trans M63.out)
  have K9 := Bx.mk (K8.out.trans hb)
  have B9 := Bx.mk (B8.out.kept hk NR.out)
  have M28 := Bx.mk m_5
  clear M45 M54 M63 K8 B8 M27 hb hk NR CR hsn m_5 o_5
  have ch := rhash_any w.heap.size u10 r 0 3 [(1, 0, Z), (0, 2, C)] s3 B9.out (by simp)
  have CH := Bx.mk ch; clear ch
  go_wp2_with fail
  refine CH.out.mono ?_
  rintro e u11 ⟨v7, rfl, hr7, hb⟩
  clear CH
  have K10 := Bx.mk (K9.out.trans (hb.mono K9.out.size)); have B10 := Bx.mk (B9.out.below hb); have M29 := Bx.mk ((hb.block _ (Array.getElem?_eq_some_iff.1 M28.out).1).trans M28.out); have M47 := Bx.mk ((hb.block _ (Array.getElem?_eq_some_iff.1 M46.out).1).trans M46.out); have M56 := Bx.mk ((hb.block _ (Array.getElem?_eq_some_iff.1 M55.out).1).trans M55.out); have M65 := Bx.mk ((hb.block _ (Array.getElem?_eq_some_iff.1 M64.out).1).trans M64.out)
  clear hb K9 B9 M28 M46 M55 M64
  obtain ⟨a7, c7, rfl, q1, q2, q3⟩ := own_shape hr7
  have HS := Bx.mk (hss_own hr7 (ls := [Z, C]) (by simp [Z32.out, C32.out]) rfl); clear hr7 q1 q2 q3
  have CS : Bx (∀ u, Below u11.heap.size u11 u → Calls Tryz.prog 28 #[.pointer (some ⟨r, 0, none⟩)] u fun e w' => e = .returned (.agg #[.int .u64 0, .int .u64 3]) ∧ Below u.heap.size u w') := ⟨fun u hu => rgspan_any (B10.out.below hu)⟩
  have CN : Bx (∀ u, Below u11.heap.size u11 u → Calls Tryz.prog 80 #[.agg (ocells X), .agg (ocells Y)] u fun e w' => e = .returned (.agg (ocells Z)) ∧ Below u.heap.size u w') := ⟨fun u hu => by
    have c := node_any u X Y X32.out Y32.out (HH.out.below (K10.out.trans (hu.mono K10.out.size)))
    rwa [hv_agg, hv_agg, hv_agg, show sha (1 :: (X ++ Y)) = nd X Y from rfl, ← HZ.out] at c⟩
  have CM : Bx (∀ u, Below u11.heap.size u11 u → Calls Tryz.prog 80 #[.agg (ocells Z), .agg (ocells C)] u fun e w' => e = .returned (.agg (ocells R)) ∧ Below u.heap.size u w') := ⟨fun u hu => by
    have c := node_any u Z C Z32.out C32.out (HH.out.below (K10.out.trans (hu.mono K10.out.size)))
    rwa [hv_agg, hv_agg, hv_agg, show sha (1 :: (Z ++ C)) = nd Z C from rfl, ← HR.out] at c⟩
  go_upto_region 14 with (fail)
  refine wp_region_own8 (n := 75) VG14mk (fun _ => none) (VG14 r g2 g4 g5 g6 X Y Z C R a7 c7) (by kernel_rfl) (by kernel_rfl) rfl (fun _ _ => rfl) (fun j i hj _ => by cases hj) ?_ ?_ ?_
  · exact fun oi oj v own w own' w' hij _ h r1 => VG14_mono r g2 g4 g5 g6 X Y Z C R a7 c7 oi oj v own w own' w' hij h r1
  · intro oi o hi f u own hsame hsn hfr hlate hkeep8 hdep
    have hkeep := hkeep8 _ (.inl rfl)
    have hb6 := hsn.below (B := u11.heap.size) (fun _ _ => rfl) (Nat.le_refl _)
    match oi, hi with
    | 0, hi =>
      cases (show some _ = some o from hi)
      have e3 : f.tmps.getD 3 undef = .nilIface := hsame.slot 3 (fun i o h => invB2_not 3 (by kernel_rfl) h)
      clear hdep hsame hi hlate hfr hkeep
      exact .inl ⟨wanted_none rfl, showsO_move hsn rfl _ rfl e3⟩
    | 1, hi =>
      cases (show some _ = some o from hi)
      have e49 : (f.tmps.getD 49 undef) = .nilIface := depO (V := (VG14 r g2 g4 g5 g6 X Y Z C R a7 c7)) hdep 0 49 (by kernel_rfl) (by kernel_rfl)
      clear hdep hsame hi hlate hfr hkeep
      exact .inl ⟨wanted_none rfl, showsO_pure hsn rfl (.bool true) (by simp only [execOp, Act.eval]; go_simp) rfl⟩
    | 2, hi =>
      cases (show some _ = some o from hi)
      have e50 : (f.tmps.getD 50 undef) = .bool true := depO (V := (VG14 r g2 g4 g5 g6 X Y Z C R a7 c7)) hdep 1 50 (by kernel_rfl) (by kernel_rfl)
      clear hdep hsame hi hlate hfr hkeep
      exact .inl ⟨wanted_none rfl, showsO_move hsn rfl _ rfl e50⟩
    | 3, hi =>
      cases (show some _ = some o from hi)
      have e1 : f.tmps.getD 1 undef = .pointer (some ⟨r, 0, none⟩) := hsame.slot 1 (fun i o h => invB2_not 1 (by kernel_rfl) h)
      have eg : f.tmps.getD 51 undef = .bool true := depO (V := (VG14 r g2 g4 g5 g6 X Y Z C R a7 c7)) hdep 2 51 (by kernel_rfl) (by kernel_rfl)
      clear hdep hsame hi hlate hfr hkeep
      exact .inl ⟨wanted_of 2 rfl eg (by kernel_rfl), showsO_move hsn rfl _ rfl e1⟩
    | 4, hi =>
      cases (show some _ = some o from hi)
      have e52 : (f.tmps.getD 52 undef) = .pointer (some ⟨r, 0, none⟩) := depO (V := (VG14 r g2 g4 g5 g6 X Y Z C R a7 c7)) hdep 3 52 (by kernel_rfl) (by kernel_rfl)
      have eg : f.tmps.getD 51 undef = .bool true := depO (V := (VG14 r g2 g4 g5 g6 X Y Z C R a7 c7)) hdep 2 51 (by kernel_rfl) (by kernel_rfl)
      clear hdep hsame hi hlate hfr hkeep
      have c := CS.out u hb6
      exact .inl ⟨wanted_of 2 rfl eg (by kernel_rfl), showsO_call1 hsn rfl 28 #[.pointer (some ⟨r, 0, none⟩)] (by simp only [execOp, Act.eval]; go_simp) (c) (fun _ => rfl)⟩
    | 5, hi =>
      cases (show some _ = some o from hi)
      have eg : f.tmps.getD 51 undef = .bool true := depO (V := (VG14 r g2 g4 g5 g6 X Y Z C R a7 c7)) hdep 2 51 (by kernel_rfl) (by kernel_rfl)
      clear hdep hsame hi hlate hfr hkeep
      exact .inl ⟨wanted_of 2 rfl eg (by kernel_rfl), showsO_build hsn rfl 54 #[(0, .const (.int .u64 0)), (1, .const (.int .u64 3))] rfl #[.int .u64 0, .int .u64 3] (by simp only [List.map_toArray, List.map_cons, List.map_nil, Act.eval]; exact built_spanC _ _) rfl⟩
    | 6, hi =>
      cases (show some _ = some o from hi)
      have e53 : (f.tmps.getD 53 undef) = .agg #[.int .u64 0, .int .u64 3] := depO (V := (VG14 r g2 g4 g5 g6 X Y Z C R a7 c7)) hdep 4 53 (by kernel_rfl) (by kernel_rfl)
      have e54 : (f.tmps.getD 54 undef) = .agg #[.int .u64 0, .int .u64 3] := depO (V := (VG14 r g2 g4 g5 g6 X Y Z C R a7 c7)) hdep 5 54 (by kernel_rfl) (by kernel_rfl)
      have eg : f.tmps.getD 51 undef = .bool true := depO (V := (VG14 r g2 g4 g5 g6 X Y Z C R a7 c7)) hdep 2 51 (by kernel_rfl) (by kernel_rfl)
      clear hdep hsame hi hlate hfr hkeep
      exact .inl ⟨wanted_of 2 rfl eg (by kernel_rfl), showsO_pure hsn rfl (.bool true) (by simp only [execOp, Act.eval]; go_simp <;> rfl) rfl⟩
    | 7, hi =>
      cases (show some _ = some o from hi)
      have e51 : (f.tmps.getD 51 undef) = .bool true := depO (V := (VG14 r g2 g4 g5 g6 X Y Z C R a7 c7)) hdep 2 51 (by kernel_rfl) (by kernel_rfl)
      have e55 : (f.tmps.getD 55 undef) = .bool true := depO (V := (VG14 r g2 g4 g5 g6 X Y Z C R a7 c7)) hdep 6 55 (by kernel_rfl) (by kernel_rfl)
      clear hdep hsame hi hlate hfr hkeep
      exact .inl ⟨wanted_none rfl, showsO_pure hsn rfl (.bool true) (by simp only [execOp, Act.eval]; go_simp) rfl⟩
    | 8, hi =>
      cases (show some _ = some o from hi)
      have e56 : (f.tmps.getD 56 undef) = .bool true := depO (V := (VG14 r g2 g4 g5 g6 X Y Z C R a7 c7)) hdep 7 56 (by kernel_rfl) (by kernel_rfl)
      clear hdep hsame hi hlate hfr hkeep
      exact .inl ⟨wanted_none rfl, showsO_move hsn rfl _ rfl e56⟩
    | 9, hi =>
      cases (show some _ = some o from hi)
      have e7 : f.tmps.getD 7 undef = .slice a7 2 c7 := hsame.slot 7 (fun i o h => invB2_not 7 (by kernel_rfl) h)
      have eg : f.tmps.getD 57 undef = .bool true := depO (V := (VG14 r g2 g4 g5 g6 X Y Z C R a7 c7)) hdep 8 57 (by kernel_rfl) (by kernel_rfl)
      clear hdep hsame hi hlate hfr hkeep
      exact .inl ⟨wanted_of 8 rfl eg (by kernel_rfl), showsO_move hsn rfl _ rfl e7⟩
    | 10, hi =>
      cases (show some _ = some o from hi)
      have e4 : f.tmps.getD 4 undef = .pointer (some ⟨g4, 0, none⟩) := hsame.slot 4 (fun i o h => invB2_not 4 (by kernel_rfl) h)
      have eg : f.tmps.getD 57 undef = .bool true := depO (V := (VG14 r g2 g4 g5 g6 X Y Z C R a7 c7)) hdep 8 57 (by kernel_rfl) (by kernel_rfl)
      clear hdep hsame hi hlate hfr hkeep
      exact .inl ⟨wanted_of 8 rfl eg (by kernel_rfl), showsO_row hsn rfl 81 (.tmp 4) rfl g4 e4 (ocells (X)) ((hb6.block _ (Array.getElem?_eq_some_iff.1 M47.out).1).trans M47.out) underH rfl (hszL X32.out) rfl⟩
    | 11, hi =>
      cases (show some _ = some o from hi)
      have e5 : f.tmps.getD 5 undef = .pointer (some ⟨g5, 0, none⟩) := hsame.slot 5 (fun i o h => invB2_not 5 (by kernel_rfl) h)
      have eg : f.tmps.getD 57 undef = .bool true := depO (V := (VG14 r g2 g4 g5 g6 X Y Z C R a7 c7)) hdep 8 57 (by kernel_rfl) (by kernel_rfl)
      clear hdep hsame hi hlate hfr hkeep
      exact .inl ⟨wanted_of 8 rfl eg (by kernel_rfl), showsO_row hsn rfl 81 (.tmp 5) rfl g5 e5 (ocells (Y)) ((hb6.block _ (Array.getElem?_eq_some_iff.1 M56.out).1).trans M56.out) underH rfl (hszL Y32.out) rfl⟩
    | 12, hi =>
      cases (show some _ = some o from hi)
      have e59 : (f.tmps.getD 59 undef) = .agg (ocells (X)) := depO (V := (VG14 r g2 g4 g5 g6 X Y Z C R a7 c7)) hdep 10 59 (by kernel_rfl) (by kernel_rfl)
      have e60 : (f.tmps.getD 60 undef) = .agg (ocells (Y)) := depO (V := (VG14 r g2 g4 g5 g6 X Y Z C R a7 c7)) hdep 11 60 (by kernel_rfl) (by kernel_rfl)
      have eg : f.tmps.getD 57 undef = .bool true := depO (V := (VG14 r g2 g4 g5 g6 X Y Z C R a7 c7)) hdep 8 57 (by kernel_rfl) (by kernel_rfl)
      clear hdep hsame hi hlate hfr hkeep
      have c := CN.out u hb6
      exact .inl ⟨wanted_of 8 rfl eg (by kernel_rfl), showsO_call1 hsn rfl 80 #[.agg (ocells (X)), .agg (ocells (Y))] (by simp only [execOp, Act.eval]; go_simp) (c) (fun _ => rfl)⟩
    | 13, hi =>
      cases (show some _ = some o from hi)
      have e6 : f.tmps.getD 6 undef = .pointer (some ⟨g6, 0, none⟩) := hsame.slot 6 (fun i o h => invB2_not 6 (by kernel_rfl) h)
      have eg : f.tmps.getD 57 undef = .bool true := depO (V := (VG14 r g2 g4 g5 g6 X Y Z C R a7 c7)) hdep 8 57 (by kernel_rfl) (by kernel_rfl)
      clear hdep hsame hi hlate hfr hkeep
      exact .inl ⟨wanted_of 8 rfl eg (by kernel_rfl), showsO_row hsn rfl 81 (.tmp 6) rfl g6 e6 (ocells (C)) ((hb6.block _ (Array.getElem?_eq_some_iff.1 M65.out).1).trans M65.out) underH rfl (hszL C32.out) rfl⟩
    | 14, hi =>
      cases (show some _ = some o from hi)
      have e61 : (f.tmps.getD 61 undef) = .agg (ocells (Z)) := depO (V := (VG14 r g2 g4 g5 g6 X Y Z C R a7 c7)) hdep 12 61 (by kernel_rfl) (by kernel_rfl)
      have e62 : (f.tmps.getD 62 undef) = .agg (ocells (C)) := depO (V := (VG14 r g2 g4 g5 g6 X Y Z C R a7 c7)) hdep 13 62 (by kernel_rfl) (by kernel_rfl)
      have eg : f.tmps.getD 57 undef = .bool true := depO (V := (VG14 r g2 g4 g5 g6 X Y Z C R a7 c7)) hdep 8 57 (by kernel_rfl) (by kernel_rfl)
      clear hdep hsame hi hlate hfr hkeep
      exact .inl ⟨wanted_of 8 rfl eg (by kernel_rfl), showsO_built hsn rfl 2 81 (ocells Z ++ ocells C) (run_bs_twoC u (.tmp 61) (.tmp 62) rfl Z C Z32.out C32.out e61 e62) (fun h => h)⟩
    | 15, hi =>
      cases (show some _ = some o from hi)
      have e58 : (f.tmps.getD 58 undef) = .slice a7 2 c7 := depO (V := (VG14 r g2 g4 g5 g6 X Y Z C R a7 c7)) hdep 9 58 (by kernel_rfl) (by kernel_rfl)
      have e63 : BuiltV own u (f.tmps.getD 63 undef) 2 81 (ocells Z ++ ocells C) := depO (V := (VG14 r g2 g4 g5 g6 X Y Z C R a7 c7)) hdep 14 63 (by kernel_rfl) (by kernel_rfl)
      have eg : f.tmps.getD 57 undef = .bool true := depO (V := (VG14 r g2 g4 g5 g6 X Y Z C R a7 c7)) hdep 8 57 (by kernel_rfl) (by kernel_rfl)
      clear hdep hsame hi hlate hfr hkeep
      obtain ⟨gb, eb, hnb⟩ := hss_builtC (ps := [Z, C]) e63 (by simp [hcells, ocells]) (by simp [Z32.out, C32.out]) rfl (by decide)
      clear e63
      have e63 := eb
      have c := same_any u _ _ _ [Z, C] _ _ _ [Z, C] (HS.out.below hb6) hnb
      rw [beq_self_eq_true] at c
      exact .inl ⟨wanted_of 8 rfl eg (by kernel_rfl), showsO_call1 hsn rfl 29 #[.slice a7 2 c7, .slice (some ⟨gb, 0, none⟩) 2 2] (by simp only [execOp, Act.eval]; go_simp) (c) (fun _ => rfl)⟩
    | 16, hi =>
      cases (show some _ = some o from hi)
      have e57 : (f.tmps.getD 57 undef) = .bool true := depO (V := (VG14 r g2 g4 g5 g6 X Y Z C R a7 c7)) hdep 8 57 (by kernel_rfl) (by kernel_rfl)
      have e64 : (f.tmps.getD 64 undef) = .bool true := depO (V := (VG14 r g2 g4 g5 g6 X Y Z C R a7 c7)) hdep 15 64 (by kernel_rfl) (by kernel_rfl)
      clear hdep hsame hi hlate hfr hkeep
      exact .inl ⟨wanted_none rfl, showsO_pure hsn rfl (.bool true) (by simp only [execOp, Act.eval]; go_simp) rfl⟩
    | 17, hi =>
      cases (show some _ = some o from hi)
      have e65 : (f.tmps.getD 65 undef) = .bool true := depO (V := (VG14 r g2 g4 g5 g6 X Y Z C R a7 c7)) hdep 16 65 (by kernel_rfl) (by kernel_rfl)
      clear hdep hsame hi hlate hfr hkeep
      exact .inl ⟨wanted_none rfl, showsO_move hsn rfl _ rfl e65⟩
    | 18, hi =>
      cases (show some _ = some o from hi)
      have e2 : f.tmps.getD 2 undef = .pointer (some ⟨g2, 0, none⟩) := hsame.slot 2 (fun i o h => invB2_not 2 (by kernel_rfl) h)
      have eg : f.tmps.getD 66 undef = .bool true := depO (V := (VG14 r g2 g4 g5 g6 X Y Z C R a7 c7)) hdep 17 66 (by kernel_rfl) (by kernel_rfl)
      clear hdep hsame hi hlate hfr hkeep
      exact .inl ⟨wanted_of 17 rfl eg (by kernel_rfl), showsO_row hsn rfl 81 (.tmp 2) rfl g2 e2 (ocells (R)) ((hb6.block _ (Array.getElem?_eq_some_iff.1 M29.out).1).trans M29.out) underH rfl (hszL R32.out) rfl⟩
    | 19, hi =>
      cases (show some _ = some o from hi)
      have e4 : f.tmps.getD 4 undef = .pointer (some ⟨g4, 0, none⟩) := hsame.slot 4 (fun i o h => invB2_not 4 (by kernel_rfl) h)
      have eg : f.tmps.getD 66 undef = .bool true := depO (V := (VG14 r g2 g4 g5 g6 X Y Z C R a7 c7)) hdep 17 66 (by kernel_rfl) (by kernel_rfl)
      clear hdep hsame hi hlate hfr hkeep
      exact .inl ⟨wanted_of 17 rfl eg (by kernel_rfl), showsO_row hsn rfl 81 (.tmp 4) rfl g4 e4 (ocells (X)) ((hb6.block _ (Array.getElem?_eq_some_iff.1 M47.out).1).trans M47.out) underH rfl (hszL X32.out) rfl⟩
    | 20, hi =>
      cases (show some _ = some o from hi)
      have e5 : f.tmps.getD 5 undef = .pointer (some ⟨g5, 0, none⟩) := hsame.slot 5 (fun i o h => invB2_not 5 (by kernel_rfl) h)
      have eg : f.tmps.getD 66 undef = .bool true := depO (V := (VG14 r g2 g4 g5 g6 X Y Z C R a7 c7)) hdep 17 66 (by kernel_rfl) (by kernel_rfl)
      clear hdep hsame hi hlate hfr hkeep
      exact .inl ⟨wanted_of 17 rfl eg (by kernel_rfl), showsO_row hsn rfl 81 (.tmp 5) rfl g5 e5 (ocells (Y)) ((hb6.block _ (Array.getElem?_eq_some_iff.1 M56.out).1).trans M56.out) underH rfl (hszL Y32.out) rfl⟩
    | 21, hi =>
      cases (show some _ = some o from hi)
      have e68 : (f.tmps.getD 68 undef) = .agg (ocells (X)) := depO (V := (VG14 r g2 g4 g5 g6 X Y Z C R a7 c7)) hdep 19 68 (by kernel_rfl) (by kernel_rfl)
      have e69 : (f.tmps.getD 69 undef) = .agg (ocells (Y)) := depO (V := (VG14 r g2 g4 g5 g6 X Y Z C R a7 c7)) hdep 20 69 (by kernel_rfl) (by kernel_rfl)
      have eg : f.tmps.getD 66 undef = .bool true := depO (V := (VG14 r g2 g4 g5 g6 X Y Z C R a7 c7)) hdep 17 66 (by kernel_rfl) (by kernel_rfl)
      clear hdep hsame hi hlate hfr hkeep
      have c := CN.out u hb6
      exact .inl ⟨wanted_of 17 rfl eg (by kernel_rfl), showsO_call1 hsn rfl 80 #[.agg (ocells (X)), .agg (ocells (Y))] (by simp only [execOp, Act.eval]; go_simp) (c) (fun _ => rfl)⟩
    | 22, hi =>
      cases (show some _ = some o from hi)
      have e6 : f.tmps.getD 6 undef = .pointer (some ⟨g6, 0, none⟩) := hsame.slot 6 (fun i o h => invB2_not 6 (by kernel_rfl) h)
      have eg : f.tmps.getD 66 undef = .bool true := depO (V := (VG14 r g2 g4 g5 g6 X Y Z C R a7 c7)) hdep 17 66 (by kernel_rfl) (by kernel_rfl)
      clear hdep hsame hi hlate hfr hkeep
      exact .inl ⟨wanted_of 17 rfl eg (by kernel_rfl), showsO_row hsn rfl 81 (.tmp 6) rfl g6 e6 (ocells (C)) ((hb6.block _ (Array.getElem?_eq_some_iff.1 M65.out).1).trans M65.out) underH rfl (hszL C32.out) rfl⟩
    | 23, hi =>
      cases (show some _ = some o from hi)
      have e70 : (f.tmps.getD 70 undef) = .agg (ocells (Z)) := depO (V := (VG14 r g2 g4 g5 g6 X Y Z C R a7 c7)) hdep 21 70 (by kernel_rfl) (by kernel_rfl)
      have e71 : (f.tmps.getD 71 undef) = .agg (ocells (C)) := depO (V := (VG14 r g2 g4 g5 g6 X Y Z C R a7 c7)) hdep 22 71 (by kernel_rfl) (by kernel_rfl)
      have eg : f.tmps.getD 66 undef = .bool true := depO (V := (VG14 r g2 g4 g5 g6 X Y Z C R a7 c7)) hdep 17 66 (by kernel_rfl) (by kernel_rfl)
      clear hdep hsame hi hlate hfr hkeep
      have c := CM.out u hb6
      exact .inl ⟨wanted_of 17 rfl eg (by kernel_rfl), showsO_call1 hsn rfl 80 #[.agg (ocells (Z)), .agg (ocells (C))] (by simp only [execOp, Act.eval]; go_simp) (c) (fun _ => rfl)⟩
    | 24, hi =>
      cases (show some _ = some o from hi)
      have e67 : (f.tmps.getD 67 undef) = .agg (ocells (R)) := depO (V := (VG14 r g2 g4 g5 g6 X Y Z C R a7 c7)) hdep 18 67 (by kernel_rfl) (by kernel_rfl)
      have e72 : (f.tmps.getD 72 undef) = .agg (ocells (R)) := depO (V := (VG14 r g2 g4 g5 g6 X Y Z C R a7 c7)) hdep 23 72 (by kernel_rfl) (by kernel_rfl)
      have eg : f.tmps.getD 66 undef = .bool true := depO (V := (VG14 r g2 g4 g5 g6 X Y Z C R a7 c7)) hdep 17 66 (by kernel_rfl) (by kernel_rfl)
      clear hdep hsame hi hlate hfr hkeep
      have q := fun u => hv_eq u (R) (R) R32.out R32.out
      simp only [hv_agg, beq_self_eq_true] at q
      exact .inl ⟨wanted_of 17 rfl eg (by kernel_rfl), showsO_pure hsn rfl (.bool true) (by simp only [execOp, Act.eval]; go_simp) rfl⟩
    | 25, hi =>
      cases (show some _ = some o from hi)
      have e66 : (f.tmps.getD 66 undef) = .bool true := depO (V := (VG14 r g2 g4 g5 g6 X Y Z C R a7 c7)) hdep 17 66 (by kernel_rfl) (by kernel_rfl)
      have e73 : (f.tmps.getD 73 undef) = .bool true := depO (V := (VG14 r g2 g4 g5 g6 X Y Z C R a7 c7)) hdep 24 73 (by kernel_rfl) (by kernel_rfl)
      clear hdep hsame hi hlate hfr hkeep
      exact .inl ⟨wanted_none rfl, showsO_pure hsn rfl (.bool true) (by simp only [execOp, Act.eval]; go_simp) rfl⟩
    | 26, hi =>
      cases (show some _ = some o from hi)
      have e74 : (f.tmps.getD 74 undef) = .bool true := depO (V := (VG14 r g2 g4 g5 g6 X Y Z C R a7 c7)) hdep 25 74 (by kernel_rfl) (by kernel_rfl)
      clear hdep hsame hi hlate hfr hkeep
      exact .inl ⟨wanted_none rfl, showsO_assign hsn rfl _ rfl e74⟩
    | n + 27, hi => exact absurd hi (by simp)
  intro f u12 own hsame hsn hall
  have q49 : f.tmps.getD 49 undef = .nilIface := finO (V := (VG14 r g2 g4 g5 g6 X Y Z C R a7 c7)) hall 0 49 rfl
  have q50 : f.tmps.getD 50 undef = .bool true := finO (V := (VG14 r g2 g4 g5 g6 X Y Z C R a7 c7)) hall 1 50 rfl
  have q51 : f.tmps.getD 51 undef = .bool true := finO (V := (VG14 r g2 g4 g5 g6 X Y Z C R a7 c7)) hall 2 51 rfl
  have q52 : f.tmps.getD 52 undef = .pointer (some ⟨r, 0, none⟩) := finO (V := (VG14 r g2 g4 g5 g6 X Y Z C R a7 c7)) hall 3 52 rfl
  have q53 : f.tmps.getD 53 undef = .agg #[.int .u64 0, .int .u64 3] := finO (V := (VG14 r g2 g4 g5 g6 X Y Z C R a7 c7)) hall 4 53 rfl
  have q54 : f.tmps.getD 54 undef = .agg #[.int .u64 0, .int .u64 3] := finO (V := (VG14 r g2 g4 g5 g6 X Y Z C R a7 c7)) hall 5 54 rfl
  have q55 : f.tmps.getD 55 undef = .bool true := finO (V := (VG14 r g2 g4 g5 g6 X Y Z C R a7 c7)) hall 6 55 rfl
  have q56 : f.tmps.getD 56 undef = .bool true := finO (V := (VG14 r g2 g4 g5 g6 X Y Z C R a7 c7)) hall 7 56 rfl
  have q57 : f.tmps.getD 57 undef = .bool true := finO (V := (VG14 r g2 g4 g5 g6 X Y Z C R a7 c7)) hall 8 57 rfl
  have q58 : f.tmps.getD 58 undef = .slice a7 2 c7 := finO (V := (VG14 r g2 g4 g5 g6 X Y Z C R a7 c7)) hall 9 58 rfl
  have q59 : f.tmps.getD 59 undef = .agg (ocells (X)) := finO (V := (VG14 r g2 g4 g5 g6 X Y Z C R a7 c7)) hall 10 59 rfl
  have q60 : f.tmps.getD 60 undef = .agg (ocells (Y)) := finO (V := (VG14 r g2 g4 g5 g6 X Y Z C R a7 c7)) hall 11 60 rfl
  have q61 : f.tmps.getD 61 undef = .agg (ocells (Z)) := finO (V := (VG14 r g2 g4 g5 g6 X Y Z C R a7 c7)) hall 12 61 rfl
  have q62 : f.tmps.getD 62 undef = .agg (ocells (C)) := finO (V := (VG14 r g2 g4 g5 g6 X Y Z C R a7 c7)) hall 13 62 rfl
  obtain ⟨g63, q63, o63, m63⟩ : BuiltV own u12 (f.tmps.getD 63 undef) 2 81 (ocells Z ++ ocells C) := finO (V := (VG14 r g2 g4 g5 g6 X Y Z C R a7 c7)) hall 14 63 rfl
  have q64 : f.tmps.getD 64 undef = .bool true := finO (V := (VG14 r g2 g4 g5 g6 X Y Z C R a7 c7)) hall 15 64 rfl
  have q65 : f.tmps.getD 65 undef = .bool true := finO (V := (VG14 r g2 g4 g5 g6 X Y Z C R a7 c7)) hall 16 65 rfl
  have q66 : f.tmps.getD 66 undef = .bool true := finO (V := (VG14 r g2 g4 g5 g6 X Y Z C R a7 c7)) hall 17 66 rfl
  have q67 : f.tmps.getD 67 undef = .agg (ocells (R)) := finO (V := (VG14 r g2 g4 g5 g6 X Y Z C R a7 c7)) hall 18 67 rfl
  have q68 : f.tmps.getD 68 undef = .agg (ocells (X)) := finO (V := (VG14 r g2 g4 g5 g6 X Y Z C R a7 c7)) hall 19 68 rfl
  have q69 : f.tmps.getD 69 undef = .agg (ocells (Y)) := finO (V := (VG14 r g2 g4 g5 g6 X Y Z C R a7 c7)) hall 20 69 rfl
  have q70 : f.tmps.getD 70 undef = .agg (ocells (Z)) := finO (V := (VG14 r g2 g4 g5 g6 X Y Z C R a7 c7)) hall 21 70 rfl
  have q71 : f.tmps.getD 71 undef = .agg (ocells (C)) := finO (V := (VG14 r g2 g4 g5 g6 X Y Z C R a7 c7)) hall 22 71 rfl
  have q72 : f.tmps.getD 72 undef = .agg (ocells (R)) := finO (V := (VG14 r g2 g4 g5 g6 X Y Z C R a7 c7)) hall 23 72 rfl
  have q73 : f.tmps.getD 73 undef = .bool true := finO (V := (VG14 r g2 g4 g5 g6 X Y Z C R a7 c7)) hall 24 73 rfl
  have q74 : f.tmps.getD 74 undef = .bool true := finO (V := (VG14 r g2 g4 g5 g6 X Y Z C R a7 c7)) hall 25 74 rfl
  have q0 : f.tmps.getD 0 undef = .bool true := finO (V := (VG14 r g2 g4 g5 g6 X Y Z C R a7 c7)) hall 26 0 rfl
  obtain rfl := frame_eq hsame [(49, .nilIface), (50, .bool true), (51, .bool true), (52, .pointer (some ⟨r, 0, none⟩)), (53, .agg #[.int .u64 0, .int .u64 3]), (54, .agg #[.int .u64 0, .int .u64 3]), (55, .bool true), (56, .bool true), (57, .bool true), (58, .slice a7 2 c7), (59, .agg (ocells (X))), (60, .agg (ocells (Y))), (61, .agg (ocells (Z))), (62, .agg (ocells (C))), (63, .slice (some ⟨g63, 0, none⟩) 2 2), (64, .bool true), (65, .bool true), (66, .bool true), (67, .agg (ocells (R))), (68, .agg (ocells (X))), (69, .agg (ocells (Y))), (70, .agg (ocells (Z))), (71, .agg (ocells (C))), (72, .agg (ocells (R))), (73, .bool true), (74, .bool true), (0, .bool true)] (by kernel_rfl) ⟨q49, q50, q51, q52, q53, q54, q55, q56, q57, q58, q59, q60, q61, q62, q63, q64, q65, q66, q67, q68, q69, q70, q71, q72, q73, q74, q0, trivial⟩
  clear hall hsame q49 q50 q51 q52 q53 q54 q55 q56 q57 q58 q59 q60 q61 q62 q63 q64 q65 q66 q67 q68 q69 q70 q71 q72 q73 q74 q0
  simp only [List.foldl, List.setIfInBounds_toArray, List.set_cons_succ, List.set_cons_zero]
  have hb := hsn.below (B := u11.heap.size) (fun _ _ => rfl) (Nat.le_refl _)
  clear CS CN CM HS
  have K11 := Bx.mk (K10.out.trans (hb.mono K10.out.size)); have B11 := Bx.mk (B10.out.below hb); have M210 := Bx.mk ((hb.block _ (Array.getElem?_eq_some_iff.1 M29.out).1).trans M29.out); have M48 := Bx.mk ((hb.block _ (Array.getElem?_eq_some_iff.1 M47.out).1).trans M47.out); have M57 := Bx.mk ((hb.block _ (Array.getElem?_eq_some_iff.1 M56.out).1).trans M56.out); have M66 := Bx.mk ((hb.block _ (Array.getElem?_eq_some_iff.1 M65.out).1).trans M65.out)
  clear hb K10 B10 M29 M47 M56 M65
  clear hsn
  go_wp2_with fail
  go_ret
  exact ⟨rfl, K11.out⟩
end Go.Proofs.YtgbafjmklefoiaaGreatDoor
