/- cartularylaw10.alive. -/
import Derived.Test.YtbhcaalelfaceaaDoorEmH
namespace Go.Proofs.YtbhcaalelfaceaaDoor
set_option maxRecDepth 100000
open Go.RowKit
theorem t10_0 : tones 0 = 0 := by decide
theorem t10_1 : tones 1 = 1 := by decide
theorem nodes10_0 (X : List UInt8) : nodesB 0 [] X (tones 0 + 1) = [(0, 0, X)] := by rw [t10_0]; rfl
theorem lsB10_0 (X : List UInt8) : lsB 0 [] X = [X] := by unfold lsB; rw [t10_0]; rfl
theorem nodes10_1 (X Y : List UInt8) : nodesB 1 [X] Y (tones 1 + 1) = [(0, 1, Y), (1, 0, nd X Y)] := by rw [t10_1]; rfl
theorem lsB10_1 (X Y : List UInt8) : lsB 1 [X] Y = [nd X Y] := by unfold lsB; rw [t10_1]; rfl
set_option maxRecDepth 1000000 in
theorem alive10_z : (nd (sha (0 :: sb ⟨#[97]⟩)) (sha (0 :: sb ⟨#[98]⟩)) == zero32') = false := by decide +kernel
theorem notS {base : Nat} {b g : Nat} {s s' : Value} (hs : ∀ k, s'.ownBlock = some k → s.ownBlock = some k ∨ base ≤ k) (h : ¬ BuS b s g) (hg : g < base) : ¬ BuS b s' g := by
  rintro (h0 | h0)
  · exact h (.inl h0)
  · rcases hs g h0 with h1 | h1
    · exact h (.inr h1)
    · omega
def VG2 (b : Nat) (E0 : List UInt8) (oi : Nat) (v : Value) (_own : Nat → Option Nat) (_w : World) : Prop :=
  match oi with
  | 0 => v = .pointer (some ⟨b, 0, none⟩)
  | 1 => v = .bool false
  | 2 => v = .bool false
  | 3 => v = .pointer (some ⟨b, 0, none⟩)
  | 4 => v = .agg (ocells (E0))
  | 5 => v = .agg (ocells (E0))
  | 6 => v = .bool false
  | 7 => v = .bool false
  | 8 => v = .bool false
  | 9 => v = .agg (ocells (E0))
  | 10 => v = .agg (ocells (zero32'))
  | 11 => v = .bool false
  | 12 => v = .bool false
  | _ => True
def VG2mk : Nat → Option Nat := fun _ => none
theorem VG2_mono (b : Nat) (E0 : List UInt8) (oi oj : Nat) (v : Value) (own : Nat → Option Nat) (w : World) (own' : Nat → Option Nat) (w' : World) (hij : oi ≠ oj)   (h : VG2 b E0 oj v own w) (_r : Rel VG2mk oi own w own' w') : VG2 b E0 oj v own' w' := by
  unfold VG2 at h ⊢
  split at h
  · exact h
  · exact h
  · exact h
  · exact h
  · exact h
  · exact h
  · exact h
  · exact h
  · exact h
  · exact h
  · exact h
  · exact h
  · exact h
  · trivial

def VG4 (X : List UInt8) (oi : Nat) (v : Value) (own : Nat → Option Nat) (w : World) : Prop :=
  match oi with
  | 0 => v = .agg (ocells (X))
  | 1 => AllocV own w v 2 33 32
  | 2 => StoredV own w 2 33 (ocells (X))
  | _ => True
def VG4mk : Nat → Option Nat := fun j => match j with | 2 => some 1 | _ => none
theorem VG4_mono (X : List UInt8) (oi oj : Nat) (v : Value) (own : Nat → Option Nat) (w : World) (own' : Nat → Option Nat) (w' : World) (hij : oi ≠ oj)   (h : VG4 X oj v own w) (r : Rel VG4mk oi own w own' w') : VG4 X oj v own' w' := by
  unfold VG4 at h ⊢
  split at h
  · exact h
  · exact h.stable r rfl hij
  · exact h.stable r hij
  · trivial

def VG5 (Y : List UInt8) (oi : Nat) (v : Value) (own : Nat → Option Nat) (w : World) : Prop :=
  match oi with
  | 0 => v = .agg (ocells (Y))
  | 1 => AllocV own w v 2 33 32
  | 2 => StoredV own w 2 33 (ocells (Y))
  | _ => True
def VG5mk : Nat → Option Nat := fun j => match j with | 2 => some 1 | _ => none
theorem VG5_mono (Y : List UInt8) (oi oj : Nat) (v : Value) (own : Nat → Option Nat) (w : World) (own' : Nat → Option Nat) (w' : World) (hij : oi ≠ oj)   (h : VG5 Y oj v own w) (r : Rel VG5mk oi own w own' w') : VG5 Y oj v own' w' := by
  unfold VG5 at h ⊢
  split at h
  · exact h
  · exact h.stable r rfl hij
  · exact h.stable r hij
  · trivial

def VG8 (X Y Z : List UInt8) (_g2 _g3 : Nat) (oi : Nat) (v : Value) (own : Nat → Option Nat) (w : World) : Prop :=
  match oi with
  | 0 => v = .agg (ocells (X))
  | 1 => v = .agg (ocells (Y))
  | 2 => v = .agg (ocells (Z))
  | 3 => AllocV own w v 4 33 32
  | 4 => StoredV own w 4 33 (ocells (Z))
  | _ => True
def VG8mk : Nat → Option Nat := fun j => match j with | 4 => some 3 | _ => none
theorem VG8_mono (X Y Z : List UInt8) (g2 g3 : Nat) (oi oj : Nat) (v : Value) (own : Nat → Option Nat) (w : World) (own' : Nat → Option Nat) (w' : World) (hij : oi ≠ oj)   (h : VG8 X Y Z g2 g3 oj v own w) (r : Rel VG8mk oi own w own' w') : VG8 X Y Z g2 g3 oj v own' w' := by
  unfold VG8 at h ⊢
  split at h
  · exact h
  · exact h
  · exact h
  · exact h.stable r rfl hij
  · exact h.stable r hij
  · trivial

def VG9 (X Y Z : List UInt8) (_g2 _g3 _g8 : Nat) (a4 a6 : Option Addr) (c4 c6 : Nat) (oi : Nat) (v : Value) (own : Nat → Option Nat) (w : World) : Prop :=
  match oi with
  | 0 => v = .nilIface
  | 1 => v = .bool false
  | 2 => v = .bool false
  | 3 => v = .nilIface
  | 4 => v = .bool false
  | 5 => v = .bool false
  | 6 => v = .bool false
  | 7 => v = .slice a4 (0 + 1) c4
  | 8 => v = .agg (ocells (X))
  | 9 => v = .agg (ncell (0, 0, X))
  | 10 => BuiltV own w v 1 54 (ncell (0, 0, X))
  | 11 => v = .bool true
  | 12 => v = .bool false
  | 13 => v = .bool false
  | 14 => v = .bool false
  | 15 => v = .slice a6 (1 + 1) c6
  | 16 => v = .agg #[.int .u8 0, .int .u64 1]
  | 17 => v = .agg (ocells (Y))
  | 18 => v = .agg (ncell (0, 1, Y))
  | 19 => v = .agg #[.int .u8 1, .int .u64 0]
  | 20 => v = .agg (ocells (Z))
  | 21 => v = .agg (ncell (1, 0, Z))
  | 22 => BuiltV own w v 2 54 ((ncell (0, 1, Y)) ++ (ncell (1, 0, Z)))
  | 23 => v = .bool true
  | 24 => v = .bool false
  | 25 => v = .bool false
  | _ => True
def VG9mk : Nat → Option Nat := fun _ => none
theorem VG9_mono (X Y Z : List UInt8) (g2 g3 g8 : Nat) (a4 a6 : Option Addr) (c4 c6 : Nat) (oi oj : Nat) (v : Value) (own : Nat → Option Nat) (w : World) (own' : Nat → Option Nat) (w' : World) (hij : oi ≠ oj)   (h : VG9 X Y Z g2 g3 g8 a4 a6 c4 c6 oj v own w) (r : Rel VG9mk oi own w own' w') : VG9 X Y Z g2 g3 g8 a4 a6 c4 c6 oj v own' w' := by
  unfold VG9 at h ⊢
  split at h
  · exact h
  · exact h
  · exact h
  · exact h
  · exact h
  · exact h
  · exact h
  · exact h
  · exact h
  · exact h
  · exact h.stable r
  · exact h
  · exact h
  · exact h
  · exact h
  · exact h
  · exact h
  · exact h
  · exact h
  · exact h
  · exact h
  · exact h
  · exact h.stable r
  · exact h
  · exact h
  · exact h
  · trivial

def VG11 (A : Nat → Addr) (oi : Nat) (v : Value) (_own : Nat → Option Nat) (_w : World) : Prop :=
  match oi with
  | 0 => v = .tuple #[.pointer none, .iface 124 (.pointer (some (A 1)))]
  | 1 => v = .tuple #[.pointer none, .iface 124 (.pointer (some (A 1)))]
  | 2 => v = .pointer none
  | 3 => v = .iface 124 (.pointer (some (A 1)))
  | 4 => v = .pointer none
  | 5 => v = .iface 124 (.pointer (some (A 1)))
  | _ => True
def VG11mk : Nat → Option Nat := fun _ => none
theorem VG11_mono (A : Nat → Addr) (oi oj : Nat) (v : Value) (own : Nat → Option Nat) (w : World) (own' : Nat → Option Nat) (w' : World) (hij : oi ≠ oj)   (h : VG11 A oj v own w) (_r : Rel VG11mk oi own w own' w') : VG11 A oj v own' w' := by
  unfold VG11 at h ⊢
  split at h
  · exact h
  · exact h
  · exact h
  · exact h
  · exact h
  · exact h
  · trivial

def VG12 (A : Nat → Addr) (b : Nat) (Z : List UInt8) (_g8 : Nat) (oi : Nat) (v : Value) (_own : Nat → Option Nat) (_w : World) : Prop :=
  match oi with
  | 0 => v = .pointer (some ⟨b, 0, none⟩)
  | 1 => v = .int .u64 2
  | 2 => v = .bool true
  | 3 => v = .bool true
  | 4 => v = .pointer (some ⟨b, 0, none⟩)
  | 5 => v = .agg (ocells (Z))
  | 6 => v = .agg (ocells (Z))
  | 7 => v = .bool true
  | 8 => v = .bool true
  | 9 => v = .bool true
  | 10 => v = .agg (ocells (Z))
  | 11 => v = .agg (ocells (zero32'))
  | 12 => v = .bool true
  | 13 => v = .bool true
  | 14 => v = .bool true
  | 15 => v = .pointer none
  | 16 => v = .bool true
  | 17 => v = .bool true
  | 18 => v = .bool true
  | 19 => v = .iface 124 (.pointer (some (A 1)))
  | 20 => v = .bool true
  | 21 => v = .bool true
  | 22 => v = .bool true
  | _ => True
def VG12mk : Nat → Option Nat := fun _ => none
theorem VG12_mono (A : Nat → Addr) (b : Nat) (Z : List UInt8) (g8 : Nat) (oi oj : Nat) (v : Value) (own : Nat → Option Nat) (w : World) (own' : Nat → Option Nat) (w' : World) (hij : oi ≠ oj)   (h : VG12 A b Z g8 oj v own w) (_r : Rel VG12mk oi own w own' w') : VG12 A b Z g8 oj v own' w' := by
  unfold VG12 at h ⊢
  split at h
  · exact h
  · exact h
  · exact h
  · exact h
  · exact h
  · exact h
  · exact h
  · exact h
  · exact h
  · exact h
  · exact h
  · exact h
  · exact h
  · exact h
  · exact h
  · exact h
  · exact h
  · exact h
  · exact h
  · exact h
  · exact h
  · exact h
  · exact h
  · trivial

set_option maxHeartbeats 6400000 in
theorem alive10_any (A : Nat → Addr) (w : World) (h : Em A w) : Calls Tryd.prog 7 #[] w fun e w' => e = .returned (.bool true) ∧ Below w.heap.size w w' := by
  have HH := Bx.mk h; clear h
  obtain ⟨E0, hE0⟩ : ∃ x, x = sha [] := ⟨_, rfl⟩
  have hE32 : E0.length = 32 := by rw [hE0]; exact sha_length _
  have hEz : (E0 == zero32') = false := by rw [hE0, sha_nil]; decide
  obtain ⟨X, hX⟩ : ∃ x, x = sha (0 :: sb ⟨#[97]⟩) := ⟨_, rfl⟩
  obtain ⟨Y, hY⟩ : ∃ x, x = sha (0 :: sb ⟨#[98]⟩) := ⟨_, rfl⟩
  obtain ⟨Z, hZ⟩ : ∃ x, x = nd X Y := ⟨_, rfl⟩
  have hZz : (Z == zero32') = false := by rw [hZ, hX, hY]; exact alive10_z
  have hX32 : X.length = 32 := by rw [hX]; exact sha_length _
  have hY32 : Y.length = 32 := by rw [hY]; exact sha_length _
  have hZ32 : Z.length = 32 := by rw [hZ]; exact nd_length _ _
  have E32 := Bx.mk hE32; have HE0 := Bx.mk hE0; have EZ := Bx.mk hEz; have X32 := Bx.mk hX32; have Y32 := Bx.mk hY32; have Z32 := Bx.mk hZ32; have HX := Bx.mk hX; have HY := Bx.mk hY; have HZ := Bx.mk hZ; have ZZ := Bx.mk hZz
  clear hE0 hE32 hEz hX hY hZ hX32 hY32 hZ32 hZz
  go_enter Tryd.func7, Tryd.ntmps7
  go_wp2_with fail
  refine (bnew_any w).mono ?_
  rintro e u1 ⟨b, rfl, hb1, k1⟩
  have B0 := Bx.mk hb1; have K0 := Bx.mk k1; clear hb1 k1
  have CR : Bx (∀ u, Below u1.heap.size u1 u → Calls Tryd.prog 14 #[.pointer (some ⟨b, 0, none⟩)] u fun e w' => e = .returned (.agg (ocells E0)) ∧ Below u.heap.size u w') := ⟨fun u hu => by
    have c := broot_any _ u b 0 [] _ (B0.out.below hu) (HH.out.below (K0.out.trans (hu.mono K0.out.size))).hs.tab (by decide)
    rwa [show upB [] = sha [] from rfl, ← HE0.out, hv_agg] at c⟩
  have CE : Bx (∀ u, Below u1.heap.size u1 u → Calls Tryd.prog 20 #[] u fun e w' => e = .returned (.agg (ocells E0)) ∧ Below u.heap.size u w') := ⟨fun u hu => by
    have c := empty_any u (HH.out.below (K0.out.trans (hu.mono K0.out.size))).hs.tab
    rwa [← HE0.out, hv_agg] at c⟩
  go_upto_region 2 with (fail)
  refine wp_region_seq8 (n := 94) VG2mk (fun _ => none) (VG2 b E0) (by kernel_rfl) rfl (fun _ _ => rfl) (fun j i hj _ => by cases hj) ?_ ?_ ?_
  · exact fun oi oj v own w own' w' hij h r => VG2_mono b E0 oi oj v own w own' w' (by omega)  h r
  · intro oi o hi f u own hsame hsn hfr hlate hkeep8 hdep
    have hkeep := hkeep8 _ (Nat.le_refl _)
    have hb6 := hsn.below (B := u1.heap.size) (fun _ _ => rfl) (Nat.le_refl _)
    match oi, hi with
    | 0, hi =>
      cases (show some _ = some o from hi)
      have e1 : f.tmps.getD 1 undef = .pointer (some ⟨b, 0, none⟩) := hlate 1 (earlyS (by kernel_rfl))
      clear hdep hsame hi hlate hfr hkeep
      exact .inl ⟨wanted_none rfl, showsO_move hsn rfl _ rfl e1⟩
    | 1, hi =>
      cases (show some _ = some o from hi)
      have e12 : (f.tmps.getD 12 undef) = .pointer (some ⟨b, 0, none⟩) := depS (V := (VG2 b E0)) hdep 0 12 (by decide) (by kernel_rfl)
      clear hdep hsame hi hlate hfr hkeep
      exact .inl ⟨wanted_none rfl, showsO_pure hsn rfl (.bool false) (by simp only [execOp, Act.eval]; go_simp) rfl⟩
    | 2, hi =>
      cases (show some _ = some o from hi)
      have e13 : (f.tmps.getD 13 undef) = .bool false := depS (V := (VG2 b E0)) hdep 1 13 (by decide) (by kernel_rfl)
      clear hdep hsame hi hlate hfr hkeep
      exact .inl ⟨wanted_none rfl, showsO_move hsn rfl _ rfl e13⟩
    | 3, hi =>
      cases (show some _ = some o from hi)
      have e1 : f.tmps.getD 1 undef = .pointer (some ⟨b, 0, none⟩) := hlate 1 (earlyS (by kernel_rfl))
      have eg : f.tmps.getD 14 undef = .bool false := depS (V := (VG2 b E0)) hdep 2 14 (by decide) (by kernel_rfl)
      clear hdep hsame hi hlate hfr hkeep
      exact .inl ⟨wanted_of 2 rfl eg (by kernel_rfl), showsO_move hsn rfl _ rfl e1⟩
    | 4, hi =>
      cases (show some _ = some o from hi)
      have e15 : (f.tmps.getD 15 undef) = .pointer (some ⟨b, 0, none⟩) := depS (V := (VG2 b E0)) hdep 3 15 (by decide) (by kernel_rfl)
      have eg : f.tmps.getD 14 undef = .bool false := depS (V := (VG2 b E0)) hdep 2 14 (by decide) (by kernel_rfl)
      clear hdep hsame hi hlate hfr hkeep
      have c := CR.out u hb6
      exact .inl ⟨wanted_of 2 rfl eg (by kernel_rfl), showsO_call1 hsn rfl 14 #[.pointer (some ⟨b, 0, none⟩)] (by simp only [execOp, Act.eval]; go_simp) (c) (fun _ => rfl)⟩
    | 5, hi =>
      cases (show some _ = some o from hi)
      have eg : f.tmps.getD 14 undef = .bool false := depS (V := (VG2 b E0)) hdep 2 14 (by decide) (by kernel_rfl)
      clear hdep hsame hi hlate hfr hkeep
      have c := CE.out u hb6
      exact .inl ⟨wanted_of 2 rfl eg (by kernel_rfl), showsO_call1 hsn rfl 20 #[] (by simp only [execOp, Act.eval]; go_simp) (c) (fun _ => rfl)⟩
    | 6, hi =>
      cases (show some _ = some o from hi)
      have e16 : (f.tmps.getD 16 undef) = .agg (ocells (E0)) := depS (V := (VG2 b E0)) hdep 4 16 (by decide) (by kernel_rfl)
      have e17 : (f.tmps.getD 17 undef) = .agg (ocells (E0)) := depS (V := (VG2 b E0)) hdep 5 17 (by decide) (by kernel_rfl)
      have eg : f.tmps.getD 14 undef = .bool false := depS (V := (VG2 b E0)) hdep 2 14 (by decide) (by kernel_rfl)
      clear hdep hsame hi hlate hfr hkeep
      have q := fun u => hv_neq u (E0) (E0) E32.out E32.out
      simp only [hv_agg, beq_self_eq_true, Bool.not_true] at q
      exact .inl ⟨wanted_of 2 rfl eg (by kernel_rfl), showsO_pure hsn rfl (.bool false) (by simp only [execOp, Act.eval]; go_simp) rfl⟩
    | 7, hi =>
      cases (show some _ = some o from hi)
      have e14 : (f.tmps.getD 14 undef) = .bool false := depS (V := (VG2 b E0)) hdep 2 14 (by decide) (by kernel_rfl)
      have e18 : (f.tmps.getD 18 undef) = .bool false := depS (V := (VG2 b E0)) hdep 6 18 (by decide) (by kernel_rfl)
      clear hdep hsame hi hlate hfr hkeep
      exact .inl ⟨wanted_none rfl, showsO_pure hsn rfl (.bool false) (by simp only [execOp, Act.eval]; go_simp) rfl⟩
    | 8, hi =>
      cases (show some _ = some o from hi)
      have e19 : (f.tmps.getD 19 undef) = .bool false := depS (V := (VG2 b E0)) hdep 7 19 (by decide) (by kernel_rfl)
      clear hdep hsame hi hlate hfr hkeep
      exact .inl ⟨wanted_none rfl, showsO_move hsn rfl _ rfl e19⟩
    | 9, hi =>
      cases (show some _ = some o from hi)
      have eg : f.tmps.getD 20 undef = .bool false := depS (V := (VG2 b E0)) hdep 8 20 (by decide) (by kernel_rfl)
      clear hdep hsame hi hlate hfr hkeep
      have c := CE.out u hb6
      exact .inl ⟨wanted_of 8 rfl eg (by kernel_rfl), showsO_call1 hsn rfl 20 #[] (by simp only [execOp, Act.eval]; go_simp) (c) (fun _ => rfl)⟩
    | 10, hi =>
      cases (show some _ = some o from hi)
      have eg : f.tmps.getD 20 undef = .bool false := depS (V := (VG2 b E0)) hdep 8 20 (by decide) (by kernel_rfl)
      clear hdep hsame hi hlate hfr hkeep
      exact .inl ⟨wanted_of 8 rfl eg (by kernel_rfl), showsO_build hsn rfl 33 #[] rfl (ocells zero32') (by simp only [List.map_toArray, List.map_nil]; exact built_zeroH) rfl⟩
    | 11, hi =>
      cases (show some _ = some o from hi)
      have e21 : (f.tmps.getD 21 undef) = .agg (ocells (E0)) := depS (V := (VG2 b E0)) hdep 9 21 (by decide) (by kernel_rfl)
      have e22 : (f.tmps.getD 22 undef) = .agg (ocells (zero32')) := depS (V := (VG2 b E0)) hdep 10 22 (by decide) (by kernel_rfl)
      have eg : f.tmps.getD 20 undef = .bool false := depS (V := (VG2 b E0)) hdep 8 20 (by decide) (by kernel_rfl)
      clear hdep hsame hi hlate hfr hkeep
      have q := fun u => hv_eq u (E0) (zero32') E32.out (by decide)
      simp only [hv_agg, EZ.out] at q
      exact .inl ⟨wanted_of 8 rfl eg (by kernel_rfl), showsO_pure hsn rfl (.bool false) (by simp only [execOp, Act.eval]; go_simp) rfl⟩
    | 12, hi =>
      cases (show some _ = some o from hi)
      have e20 : (f.tmps.getD 20 undef) = .bool false := depS (V := (VG2 b E0)) hdep 8 20 (by decide) (by kernel_rfl)
      have e23 : (f.tmps.getD 23 undef) = .bool false := depS (V := (VG2 b E0)) hdep 11 23 (by decide) (by kernel_rfl)
      clear hdep hsame hi hlate hfr hkeep
      exact .inl ⟨wanted_none rfl, showsO_pure hsn rfl (.bool false) (by simp only [execOp, Act.eval]; go_simp) rfl⟩
    | n + 13, hi => exact absurd hi (by simp)
  intro f u2 own hsame hsn hall
  have q12 : f.tmps.getD 12 undef = .pointer (some ⟨b, 0, none⟩) := finO (V := (VG2 b E0)) hall 0 12 rfl
  have q13 : f.tmps.getD 13 undef = .bool false := finO (V := (VG2 b E0)) hall 1 13 rfl
  have q14 : f.tmps.getD 14 undef = .bool false := finO (V := (VG2 b E0)) hall 2 14 rfl
  have q15 : f.tmps.getD 15 undef = .pointer (some ⟨b, 0, none⟩) := finO (V := (VG2 b E0)) hall 3 15 rfl
  have q16 : f.tmps.getD 16 undef = .agg (ocells (E0)) := finO (V := (VG2 b E0)) hall 4 16 rfl
  have q17 : f.tmps.getD 17 undef = .agg (ocells (E0)) := finO (V := (VG2 b E0)) hall 5 17 rfl
  have q18 : f.tmps.getD 18 undef = .bool false := finO (V := (VG2 b E0)) hall 6 18 rfl
  have q19 : f.tmps.getD 19 undef = .bool false := finO (V := (VG2 b E0)) hall 7 19 rfl
  have q20 : f.tmps.getD 20 undef = .bool false := finO (V := (VG2 b E0)) hall 8 20 rfl
  have q21 : f.tmps.getD 21 undef = .agg (ocells (E0)) := finO (V := (VG2 b E0)) hall 9 21 rfl
  have q22 : f.tmps.getD 22 undef = .agg (ocells (zero32')) := finO (V := (VG2 b E0)) hall 10 22 rfl
  have q23 : f.tmps.getD 23 undef = .bool false := finO (V := (VG2 b E0)) hall 11 23 rfl
  have q24 : f.tmps.getD 24 undef = .bool false := finO (V := (VG2 b E0)) hall 12 24 rfl
  obtain rfl := frame_eq hsame [(12, .pointer (some ⟨b, 0, none⟩)), (13, .bool false), (14, .bool false), (15, .pointer (some ⟨b, 0, none⟩)), (16, .agg (ocells (E0))), (17, .agg (ocells (E0))), (18, .bool false), (19, .bool false), (20, .bool false), (21, .agg (ocells (E0))), (22, .agg (ocells (zero32'))), (23, .bool false), (24, .bool false)] (by kernel_rfl) ⟨q12, q13, q14, q15, q16, q17, q18, q19, q20, q21, q22, q23, q24, trivial⟩
  clear hall hsame q12 q13 q14 q15 q16 q17 q18 q19 q20 q21 q22 q23 q24
  simp only [List.foldl, List.setIfInBounds_toArray, List.set_cons_succ, List.set_cons_zero]
  have hb := hsn.below (B := u1.heap.size) (fun _ _ => rfl) (Nat.le_refl _)
  clear CR CE
  have K1 := Bx.mk (K0.out.trans (hb.mono K0.out.size)); have B1 := Bx.mk (B0.out.below hb)
  clear hb K0 B0
  clear hsn
  have CL : Bx (∀ u, Below u2.heap.size u2 u → Calls Tryd.prog 26 #[.string ⟨#[97]⟩] u fun e w' => e = .returned (.agg (ocells X)) ∧ Below u.heap.size u w') := ⟨fun u hu => by
    have c := leaf_any u ⟨#[97]⟩ (by decide) (HH.out.below (K1.out.trans (hu.mono K1.out.size))).hs.tab
    rwa [← HX.out, hv_agg] at c⟩
  go_upto_region 4 with (fail)
  refine wp_region_seq8 (n := 94) VG4mk (fun _ => none) (VG4 X) (by kernel_rfl) rfl (fun _ _ => rfl) (fun _ _ _ _ h => by cases h) ?_ ?_ ?_
  · exact fun oi oj v own w own' w' hij h r => VG4_mono X oi oj v own w own' w' (by omega)  h r
  · intro oi o hi f u own hsame hsn hfr hlate hkeep8 hdep
    have hkeep := hkeep8 _ (Nat.le_refl _)
    have hb6 := hsn.below (B := u2.heap.size) (fun _ _ => rfl) (Nat.le_refl _)
    match oi, hi with
    | 0, hi =>
      cases (show some _ = some o from hi)
      clear hdep hsame hi hlate hfr hkeep
      have c := CL.out u hb6
      exact .inl ⟨wanted_none rfl, showsO_call1 hsn rfl 26 #[.string ⟨#[97]⟩] (by simp only [execOp, Act.eval]; go_simp) (c) (fun _ => rfl)⟩
    | 1, hi =>
      cases (show some _ = some o from hi)
      clear hdep hsame hi hlate hkeep
      exact .inl ⟨wanted_none rfl, showsO_alloc hsn hfr rfl zeros32 33 2 rfl (by simp only [execOp, Act.eval]; go_simp; rfl) (fun h => h)⟩
    | 2, hi =>
      cases (show some _ = some o from hi)
      have e2 : AllocV own u (f.tmps.getD 2 undef) 2 33 32 := depS (V := (VG4 X)) hdep 1 2 (by decide) (by kernel_rfl)
      have e25 : (f.tmps.getD 25 undef) = .agg (ocells (X)) := depS (V := (VG4 X)) hdep 0 25 (by decide) (by kernel_rfl)
      clear hdep hsame hi hlate hfr hkeep
      exact .inl ⟨wanted_none rfl, showsO_store_alloc hsn rfl 33 (.tmp 2) (.tmp 25) rfl e2 (ocells (X)) e25 (hszL X32.out) (by rw [ocells_size, X32.out]) (ocells_one _) (fun _ h => h)⟩
    | n + 3, hi => exact absurd hi (by simp)
  intro f u3 own hsame hsn hall
  have q25 : f.tmps.getD 25 undef = .agg (ocells (X)) := finO (V := (VG4 X)) hall 0 25 rfl
  obtain ⟨g2, q2, o2, m2⟩ := AllocV.stored (finO (V := (VG4 X)) hall 1 2 rfl) (finN (V := (VG4 X)) hall 2 rfl)
  obtain rfl := frame_eq hsame [(25, .agg (ocells (X))), (2, .pointer (some ⟨g2, 0, none⟩))] (by kernel_rfl) ⟨q25, q2, trivial⟩
  clear hall hsame q25 q2
  simp only [List.foldl, List.setIfInBounds_toArray, List.set_cons_succ, List.set_cons_zero]
  have ge2 := hsn.ge o2 (fun _ _ h => by cases h)
  have hb := hsn.below (B := u2.heap.size) (fun _ _ => rfl) (Nat.le_refl _)
  have NB2 : Bx (¬ BuS b (.slice none 0 0) g2) := ⟨fun h => by have := B1.out.lt _ h; omega⟩
  clear CL
  have K2 := Bx.mk (K1.out.trans (hb.mono K1.out.size)); have B2 := Bx.mk (B1.out.below hb)
  clear hb K1 B1
  clear hsn
  have M20 := Bx.mk m2; clear m2 o2 ge2
  have CL : Bx (∀ u, Below u3.heap.size u3 u → Calls Tryd.prog 26 #[.string ⟨#[98]⟩] u fun e w' => e = .returned (.agg (ocells Y)) ∧ Below u.heap.size u w') := ⟨fun u hu => by
    have c := leaf_any u ⟨#[98]⟩ (by decide) (HH.out.below (K2.out.trans (hu.mono K2.out.size))).hs.tab
    rwa [← HY.out, hv_agg] at c⟩
  go_upto_region 5 with (fail)
  refine wp_region_seq8 (n := 94) VG5mk (fun _ => none) (VG5 Y) (by kernel_rfl) rfl (fun _ _ => rfl) (fun _ _ _ _ h => by cases h) ?_ ?_ ?_
  · exact fun oi oj v own w own' w' hij h r => VG5_mono Y oi oj v own w own' w' (by omega)  h r
  · intro oi o hi f u own hsame hsn hfr hlate hkeep8 hdep
    have hkeep := hkeep8 _ (Nat.le_refl _)
    have hb6 := hsn.below (B := u3.heap.size) (fun _ _ => rfl) (Nat.le_refl _)
    match oi, hi with
    | 0, hi =>
      cases (show some _ = some o from hi)
      clear hdep hsame hi hlate hfr hkeep
      have c := CL.out u hb6
      exact .inl ⟨wanted_none rfl, showsO_call1 hsn rfl 26 #[.string ⟨#[98]⟩] (by simp only [execOp, Act.eval]; go_simp) (c) (fun _ => rfl)⟩
    | 1, hi =>
      cases (show some _ = some o from hi)
      clear hdep hsame hi hlate hkeep
      exact .inl ⟨wanted_none rfl, showsO_alloc hsn hfr rfl zeros32 33 2 rfl (by simp only [execOp, Act.eval]; go_simp; rfl) (fun h => h)⟩
    | 2, hi =>
      cases (show some _ = some o from hi)
      have e3 : AllocV own u (f.tmps.getD 3 undef) 2 33 32 := depS (V := (VG5 Y)) hdep 1 3 (by decide) (by kernel_rfl)
      have e26 : (f.tmps.getD 26 undef) = .agg (ocells (Y)) := depS (V := (VG5 Y)) hdep 0 26 (by decide) (by kernel_rfl)
      clear hdep hsame hi hlate hfr hkeep
      exact .inl ⟨wanted_none rfl, showsO_store_alloc hsn rfl 33 (.tmp 3) (.tmp 26) rfl e3 (ocells (Y)) e26 (hszL Y32.out) (by rw [ocells_size, Y32.out]) (ocells_one _) (fun _ h => h)⟩
    | n + 3, hi => exact absurd hi (by simp)
  intro f u4 own hsame hsn hall
  have q26 : f.tmps.getD 26 undef = .agg (ocells (Y)) := finO (V := (VG5 Y)) hall 0 26 rfl
  obtain ⟨g3, q3, o3, m3⟩ := AllocV.stored (finO (V := (VG5 Y)) hall 1 3 rfl) (finN (V := (VG5 Y)) hall 2 rfl)
  obtain rfl := frame_eq hsame [(26, .agg (ocells (Y))), (3, .pointer (some ⟨g3, 0, none⟩))] (by kernel_rfl) ⟨q26, q3, trivial⟩
  clear hall hsame q26 q3
  simp only [List.foldl, List.setIfInBounds_toArray, List.set_cons_succ, List.set_cons_zero]
  have ge3 := hsn.ge o3 (fun _ _ h => by cases h)
  have hb := hsn.below (B := u3.heap.size) (fun _ _ => rfl) (Nat.le_refl _)
  have NB3 : Bx (¬ BuS b (.slice none 0 0) g3) := ⟨fun h => by have := B2.out.lt _ h; omega⟩
  clear CL
  have K3 := Bx.mk (K2.out.trans (hb.mono K2.out.size)); have B3 := Bx.mk (B2.out.below hb); have M21 := Bx.mk ((hb.block _ (Array.getElem?_eq_some_iff.1 M20.out).1).trans M20.out)
  clear hb K2 B2 M20
  clear hsn
  have M30 := Bx.mk m3; clear m3 o3 ge3
  go_upto_region 6 with (fail)
  have ca := add_any A w.heap.size u4 b 0 [] (.slice none 0 0) B3.out (show 0 = pcnt 0 by decide) (by decide) X X32.out (HH.out.below K3.out).hs (HH.out.below K3.out).tz (HH.out.below K3.out).lt K3.out.size
  rw [hv_agg] at ca
  have CA := Bx.mk ca; clear ca
  go_wp2_with (guard_target =~ wpList _ _ _ (⟨some 29, _, _, _, _, _⟩ :: _) _ _; refine wpList_load_row rfl 33 (.tmp 2) rfl g2 rfl _ _ _ _ M21.out underH rfl (hszL X32.out) ?_)
  refine CA.out.mono ?_
  rintro e u5 ⟨v4, rfl, hR⟩
  obtain ⟨hr, hk, s1, hB, hs⟩ := hR
  rw [nodes10_0 X, t10_0] at hr
  rw [lsB10_0 X] at hB
  skip
  have hb0 := B3.out.below0 hk K3.out.size
  clear CA
  have M22 := Bx.mk ((hk.block _ (Array.getElem?_eq_some_iff.1 M21.out).1 NB2.out).trans M21.out)
  have M31 := Bx.mk ((hk.block _ (Array.getElem?_eq_some_iff.1 M30.out).1 NB3.out).trans M30.out)
  have NC2 : Bx (¬ BuS b s1 g2) := ⟨notS hs NB2.out (Array.getElem?_eq_some_iff.1 M21.out).1⟩
  have NC3 : Bx (¬ BuS b s1 g3) := ⟨notS hs NB3.out (Array.getElem?_eq_some_iff.1 M30.out).1⟩
  have K4 := Bx.mk (K3.out.trans hb0)
  have B4 := Bx.mk hB
  clear M21 M30 K3 B3 NB2 NB3 hk hb0 hB hs
  have NB2 := NC2; have NB3 := NC3; clear NC2 NC3
  obtain ⟨a4, c4, rfl, q1, q2, q3⟩ := own_shape hr
  have O40 := Bx.mk hr; clear hr q1 q2 q3
  go_upto_region 7 with (fail)
  have ca := add_any A w.heap.size u5 b 1 [X] s1 B4.out (show 1 = pcnt 1 by decide) (by decide) Y Y32.out (HH.out.below K4.out).hs (HH.out.below K4.out).tz (HH.out.below K4.out).lt K4.out.size
  rw [hv_agg] at ca
  have CA := Bx.mk ca; clear ca
  go_wp2_with (guard_target =~ wpList _ _ _ (⟨some 35, _, _, _, _, _⟩ :: _) _ _; refine wpList_load_row rfl 33 (.tmp 3) rfl g3 rfl _ _ _ _ M31.out underH rfl (hszL Y32.out) ?_)
  refine CA.out.mono ?_
  rintro e u6 ⟨v6, rfl, hR⟩
  obtain ⟨hr, hk, s2, hB, hs⟩ := hR
  rw [nodes10_1 X Y, t10_1] at hr
  rw [lsB10_1 X Y, ← HZ.out] at hB
  rw [← HZ.out] at hr
  have hb0 := B4.out.below0 hk K4.out.size
  clear CA
  have O41 := Bx.mk (own_keep O40.out hk (B4.out.apartN O40.out))
  have M23 := Bx.mk ((hk.block _ (Array.getElem?_eq_some_iff.1 M22.out).1 NB2.out).trans M22.out)
  have M32 := Bx.mk ((hk.block _ (Array.getElem?_eq_some_iff.1 M31.out).1 NB3.out).trans M31.out)
  have NC2 : Bx (¬ BuS b s2 g2) := ⟨notS hs NB2.out (Array.getElem?_eq_some_iff.1 M22.out).1⟩
  have NC3 : Bx (¬ BuS b s2 g3) := ⟨notS hs NB3.out (Array.getElem?_eq_some_iff.1 M31.out).1⟩
  have K5 := Bx.mk (K4.out.trans hb0)
  have B5 := Bx.mk hB
  clear O40 M22 M31 K4 B4 NB2 NB3 hk hb0 hB hs
  have NB2 := NC2; have NB3 := NC3; clear NC2 NC3
  obtain ⟨a6, c6, rfl, q1, q2, q3⟩ := own_shape hr
  have O60 := Bx.mk hr; clear hr q1 q2 q3
  have CN : Bx (∀ u, Below u6.heap.size u6 u → Calls Tryd.prog 21 #[.agg (ocells X), .agg (ocells Y)] u fun e w' => e = .returned (.agg (ocells Z)) ∧ Below u.heap.size u w') := ⟨fun u hu => by
    have c := node_any u X Y X32.out Y32.out (HH.out.below (K5.out.trans (hu.mono K5.out.size))).hs.tab
    rwa [hv_agg, hv_agg, hv_agg, show sha (1 :: (X ++ Y)) = nd X Y from rfl, ← HZ.out] at c⟩
  go_upto_region 8 with (fail)
  refine wp_region_seq8 (n := 94) VG8mk (fun _ => none) (VG8 X Y Z g2 g3) (by kernel_rfl) rfl (fun _ _ => rfl) (fun _ _ _ _ h => by cases h) ?_ ?_ ?_
  · exact fun oi oj v own w own' w' hij h r => VG8_mono X Y Z g2 g3 oi oj v own w own' w' (by omega)  h r
  · intro oi o hi f u own hsame hsn hfr hlate hkeep8 hdep
    have hkeep := hkeep8 _ (Nat.le_refl _)
    have hb6 := hsn.below (B := u6.heap.size) (fun _ _ => rfl) (Nat.le_refl _)
    match oi, hi with
    | 0, hi =>
      cases (show some _ = some o from hi)
      have e2 : f.tmps.getD 2 undef = .pointer (some ⟨g2, 0, none⟩) := hlate 2 (earlyS (by kernel_rfl))
      clear hdep hsame hi hlate hfr hkeep
      exact .inl ⟨wanted_none rfl, showsO_row hsn rfl 33 (.tmp 2) rfl g2 e2 (ocells (X)) ((hb6.block _ (Array.getElem?_eq_some_iff.1 M23.out).1).trans M23.out) underH rfl (hszL X32.out) rfl⟩
    | 1, hi =>
      cases (show some _ = some o from hi)
      have e3 : f.tmps.getD 3 undef = .pointer (some ⟨g3, 0, none⟩) := hlate 3 (earlyS (by kernel_rfl))
      clear hdep hsame hi hlate hfr hkeep
      exact .inl ⟨wanted_none rfl, showsO_row hsn rfl 33 (.tmp 3) rfl g3 e3 (ocells (Y)) ((hb6.block _ (Array.getElem?_eq_some_iff.1 M32.out).1).trans M32.out) underH rfl (hszL Y32.out) rfl⟩
    | 2, hi =>
      cases (show some _ = some o from hi)
      have e39 : (f.tmps.getD 39 undef) = .agg (ocells (X)) := depS (V := (VG8 X Y Z g2 g3)) hdep 0 39 (by decide) (by kernel_rfl)
      have e40 : (f.tmps.getD 40 undef) = .agg (ocells (Y)) := depS (V := (VG8 X Y Z g2 g3)) hdep 1 40 (by decide) (by kernel_rfl)
      clear hdep hsame hi hlate hfr hkeep
      have c := CN.out u hb6
      exact .inl ⟨wanted_none rfl, showsO_call1 hsn rfl 21 #[.agg (ocells (X)), .agg (ocells (Y))] (by simp only [execOp, Act.eval]; go_simp) (c) (fun _ => rfl)⟩
    | 3, hi =>
      cases (show some _ = some o from hi)
      clear hdep hsame hi hlate hkeep
      exact .inl ⟨wanted_none rfl, showsO_alloc hsn hfr rfl zeros32 33 4 rfl (by simp only [execOp, Act.eval]; go_simp; rfl) (fun h => h)⟩
    | 4, hi =>
      cases (show some _ = some o from hi)
      have e8 : AllocV own u (f.tmps.getD 8 undef) 4 33 32 := depS (V := (VG8 X Y Z g2 g3)) hdep 3 8 (by decide) (by kernel_rfl)
      have e41 : (f.tmps.getD 41 undef) = .agg (ocells (Z)) := depS (V := (VG8 X Y Z g2 g3)) hdep 2 41 (by decide) (by kernel_rfl)
      clear hdep hsame hi hlate hfr hkeep
      exact .inl ⟨wanted_none rfl, showsO_store_alloc hsn rfl 33 (.tmp 8) (.tmp 41) rfl e8 (ocells (Z)) e41 (hszL Z32.out) (by rw [ocells_size, Z32.out]) (ocells_one _) (fun _ h => h)⟩
    | n + 5, hi => exact absurd hi (by simp)
  intro f u7 own hsame hsn hall
  have q39 : f.tmps.getD 39 undef = .agg (ocells (X)) := finO (V := (VG8 X Y Z g2 g3)) hall 0 39 rfl
  have q40 : f.tmps.getD 40 undef = .agg (ocells (Y)) := finO (V := (VG8 X Y Z g2 g3)) hall 1 40 rfl
  have q41 : f.tmps.getD 41 undef = .agg (ocells (Z)) := finO (V := (VG8 X Y Z g2 g3)) hall 2 41 rfl
  obtain ⟨g8, q8, o8, m8⟩ := AllocV.stored (finO (V := (VG8 X Y Z g2 g3)) hall 3 8 rfl) (finN (V := (VG8 X Y Z g2 g3)) hall 4 rfl)
  obtain rfl := frame_eq hsame [(39, .agg (ocells (X))), (40, .agg (ocells (Y))), (41, .agg (ocells (Z))), (8, .pointer (some ⟨g8, 0, none⟩))] (by kernel_rfl) ⟨q39, q40, q41, q8, trivial⟩
  clear hall hsame q39 q40 q41 q8
  simp only [List.foldl, List.setIfInBounds_toArray, List.set_cons_succ, List.set_cons_zero]
  have hb := hsn.below (B := u6.heap.size) (fun _ _ => rfl) (Nat.le_refl _)
  clear CN
  have K6 := Bx.mk (K5.out.trans (hb.mono K5.out.size)); have B6 := Bx.mk (B5.out.below hb); have M24 := Bx.mk ((hb.block _ (Array.getElem?_eq_some_iff.1 M23.out).1).trans M23.out); have M33 := Bx.mk ((hb.block _ (Array.getElem?_eq_some_iff.1 M32.out).1).trans M32.out); have O42 := Bx.mk (own_keep O41.out (Keep.of_below hb (fun _ => False)) (fun _ _ h => h)); have O61 := Bx.mk (own_keep O60.out (Keep.of_below hb (fun _ => False)) (fun _ _ h => h))
  clear hb K5 B5 M23 M32 O41 O60
  clear hsn
  have M80 := Bx.mk m8; clear m8 o8
  go_upto_region 9 with (fail)
  refine wp_region_seq8 (n := 94) VG9mk (fun _ => none) (VG9 X Y Z g2 g3 g8 a4 a6 c4 c6) (by kernel_rfl) rfl (fun _ _ => rfl) (fun j i hj _ => by cases hj) ?_ ?_ ?_
  · exact fun oi oj v own w own' w' hij h r => VG9_mono X Y Z g2 g3 g8 a4 a6 c4 c6 oi oj v own w own' w' (by omega)  h r
  · intro oi o hi f u own hsame hsn hfr hlate hkeep8 hdep
    have hkeep := hkeep8 _ (Nat.le_refl _)
    have hb6 := hsn.below (B := u7.heap.size) (fun _ _ => rfl) (Nat.le_refl _)
    match oi, hi with
    | 0, hi =>
      cases (show some _ = some o from hi)
      have e5 : f.tmps.getD 5 undef = .nilIface := hlate 5 (earlyS (by kernel_rfl))
      clear hdep hsame hi hlate hfr hkeep
      exact .inl ⟨wanted_none rfl, showsO_move hsn rfl _ rfl e5⟩
    | 1, hi =>
      cases (show some _ = some o from hi)
      have e42 : (f.tmps.getD 42 undef) = .nilIface := depS (V := (VG9 X Y Z g2 g3 g8 a4 a6 c4 c6)) hdep 0 42 (by decide) (by kernel_rfl)
      clear hdep hsame hi hlate hfr hkeep
      exact .inl ⟨wanted_none rfl, showsO_pure hsn rfl (.bool false) (by simp only [execOp, Act.eval]; go_simp) rfl⟩
    | 2, hi =>
      cases (show some _ = some o from hi)
      have e43 : (f.tmps.getD 43 undef) = .bool false := depS (V := (VG9 X Y Z g2 g3 g8 a4 a6 c4 c6)) hdep 1 43 (by decide) (by kernel_rfl)
      clear hdep hsame hi hlate hfr hkeep
      exact .inl ⟨wanted_none rfl, showsO_move hsn rfl _ rfl e43⟩
    | 3, hi =>
      cases (show some _ = some o from hi)
      have e7 : f.tmps.getD 7 undef = .nilIface := hlate 7 (earlyS (by kernel_rfl))
      have eg : f.tmps.getD 44 undef = .bool false := depS (V := (VG9 X Y Z g2 g3 g8 a4 a6 c4 c6)) hdep 2 44 (by decide) (by kernel_rfl)
      clear hdep hsame hi hlate hfr hkeep
      exact .inl ⟨wanted_of 2 rfl eg (by kernel_rfl), showsO_move hsn rfl _ rfl e7⟩
    | 4, hi =>
      cases (show some _ = some o from hi)
      have e45 : (f.tmps.getD 45 undef) = .nilIface := depS (V := (VG9 X Y Z g2 g3 g8 a4 a6 c4 c6)) hdep 3 45 (by decide) (by kernel_rfl)
      have eg : f.tmps.getD 44 undef = .bool false := depS (V := (VG9 X Y Z g2 g3 g8 a4 a6 c4 c6)) hdep 2 44 (by decide) (by kernel_rfl)
      clear hdep hsame hi hlate hfr hkeep
      exact .inl ⟨wanted_of 2 rfl eg (by kernel_rfl), showsO_pure hsn rfl (.bool false) (by simp only [execOp, Act.eval]; go_simp) rfl⟩
    | 5, hi =>
      cases (show some _ = some o from hi)
      have e44 : (f.tmps.getD 44 undef) = .bool false := depS (V := (VG9 X Y Z g2 g3 g8 a4 a6 c4 c6)) hdep 2 44 (by decide) (by kernel_rfl)
      have e46 : (f.tmps.getD 46 undef) = .bool false := depS (V := (VG9 X Y Z g2 g3 g8 a4 a6 c4 c6)) hdep 4 46 (by decide) (by kernel_rfl)
      clear hdep hsame hi hlate hfr hkeep
      exact .inl ⟨wanted_none rfl, showsO_pure hsn rfl (.bool false) (by simp only [execOp, Act.eval]; go_simp) rfl⟩
    | 6, hi =>
      cases (show some _ = some o from hi)
      have e47 : (f.tmps.getD 47 undef) = .bool false := depS (V := (VG9 X Y Z g2 g3 g8 a4 a6 c4 c6)) hdep 5 47 (by decide) (by kernel_rfl)
      clear hdep hsame hi hlate hfr hkeep
      exact .inl ⟨wanted_none rfl, showsO_move hsn rfl _ rfl e47⟩
    | 7, hi =>
      cases (show some _ = some o from hi)
      have e4 : f.tmps.getD 4 undef = .slice a4 (0 + 1) c4 := hlate 4 (earlyS (by kernel_rfl))
      have eg : f.tmps.getD 48 undef = .bool false := depS (V := (VG9 X Y Z g2 g3 g8 a4 a6 c4 c6)) hdep 6 48 (by decide) (by kernel_rfl)
      clear hdep hsame hi hlate hfr hkeep
      exact .inl ⟨wanted_of 6 rfl eg (by kernel_rfl), showsO_move hsn rfl _ rfl e4⟩
    | 8, hi =>
      cases (show some _ = some o from hi)
      have e2 : f.tmps.getD 2 undef = .pointer (some ⟨g2, 0, none⟩) := hlate 2 (earlyS (by kernel_rfl))
      have eg : f.tmps.getD 48 undef = .bool false := depS (V := (VG9 X Y Z g2 g3 g8 a4 a6 c4 c6)) hdep 6 48 (by decide) (by kernel_rfl)
      clear hdep hsame hi hlate hfr hkeep
      exact .inl ⟨wanted_of 6 rfl eg (by kernel_rfl), showsO_row hsn rfl 33 (.tmp 2) rfl g2 e2 (ocells (X)) ((hb6.block _ (Array.getElem?_eq_some_iff.1 M24.out).1).trans M24.out) underH rfl (hszL X32.out) rfl⟩
    | 9, hi =>
      cases (show some _ = some o from hi)
      have e50 : (f.tmps.getD 50 undef) = .agg (ocells (X)) := depS (V := (VG9 X Y Z g2 g3 g8 a4 a6 c4 c6)) hdep 8 50 (by decide) (by kernel_rfl)
      have eg : f.tmps.getD 48 undef = .bool false := depS (V := (VG9 X Y Z g2 g3 g8 a4 a6 c4 c6)) hdep 6 48 (by decide) (by kernel_rfl)
      clear hdep hsame hi hlate hfr hkeep
      exact .inl ⟨wanted_of 6 rfl eg (by kernel_rfl), showsO_build hsn rfl 54 #[(1, .tmp 50)] rfl (ncell (0, 0, X)) (by simp only [List.map_toArray, List.map_cons, List.map_nil, Act.eval]; rw [e50]; exact built_node1 X X32.out) rfl⟩
    | 10, hi =>
      cases (show some _ = some o from hi)
      have e51 : (f.tmps.getD 51 undef) = .agg (ncell (0, 0, X)) := depS (V := (VG9 X Y Z g2 g3 g8 a4 a6 c4 c6)) hdep 9 51 (by decide) (by kernel_rfl)
      have eg : f.tmps.getD 48 undef = .bool false := depS (V := (VG9 X Y Z g2 g3 g8 a4 a6 c4 c6)) hdep 6 48 (by decide) (by kernel_rfl)
      clear hdep hsame hi hlate hfr hkeep
      exact .inl ⟨wanted_of 6 rfl eg (by kernel_rfl), showsO_built hsn rfl 1 54 (ncell (0, 0, X)) (run_bs_node u (.tmp 51) rfl (ncell (0, 0, X)) (ncell_size X32.out) e51) (fun h => h)⟩
    | 11, hi =>
      cases (show some _ = some o from hi)
      have e49 : (f.tmps.getD 49 undef) = .slice a4 (0 + 1) c4 := depS (V := (VG9 X Y Z g2 g3 g8 a4 a6 c4 c6)) hdep 7 49 (by decide) (by kernel_rfl)
      have e52 : BuiltV own u (f.tmps.getD 52 undef) 1 54 (ncell (0, 0, X)) := depS (V := (VG9 X Y Z g2 g3 g8 a4 a6 c4 c6)) hdep 10 52 (by decide) (by kernel_rfl)
      have eg : f.tmps.getD 48 undef = .bool false := depS (V := (VG9 X Y Z g2 g3 g8 a4 a6 c4 c6)) hdep 6 48 (by decide) (by kernel_rfl)
      clear hdep hsame hi hlate hfr hkeep
      obtain ⟨gb, eb, hnb⟩ := nss_built (ps := [(0, 0, X)]) e52 (by simp [ncells]) (by simp [X32.out]) rfl (by decide)
      clear e52
      have e52 := eb
      have c := sameN_any u _ _ _ [(0, 0, X)] _ _ _ [(0, 0, X)] (nss_own (own_keep O42.out (Keep.of_below hb6 (fun _ => False)) (fun _ _ h => h)) (by simp [X32.out]) rfl) hnb
      rw [beq_self_eq_true] at c
      exact .inl ⟨wanted_of 6 rfl eg (by kernel_rfl), showsO_call1 hsn rfl 15 #[.slice a4 (0 + 1) c4, .slice (some ⟨gb, 0, none⟩) 1 1] (by simp only [execOp, Act.eval]; go_simp) (c) (fun _ => rfl)⟩
    | 12, hi =>
      cases (show some _ = some o from hi)
      have e53 : (f.tmps.getD 53 undef) = .bool true := depS (V := (VG9 X Y Z g2 g3 g8 a4 a6 c4 c6)) hdep 11 53 (by decide) (by kernel_rfl)
      have eg : f.tmps.getD 48 undef = .bool false := depS (V := (VG9 X Y Z g2 g3 g8 a4 a6 c4 c6)) hdep 6 48 (by decide) (by kernel_rfl)
      clear hdep hsame hi hlate hfr hkeep
      exact .inl ⟨wanted_of 6 rfl eg (by kernel_rfl), showsO_pure hsn rfl (.bool false) (by simp only [execOp, Act.eval]; go_simp) rfl⟩
    | 13, hi =>
      cases (show some _ = some o from hi)
      have e48 : (f.tmps.getD 48 undef) = .bool false := depS (V := (VG9 X Y Z g2 g3 g8 a4 a6 c4 c6)) hdep 6 48 (by decide) (by kernel_rfl)
      have e54 : (f.tmps.getD 54 undef) = .bool false := depS (V := (VG9 X Y Z g2 g3 g8 a4 a6 c4 c6)) hdep 12 54 (by decide) (by kernel_rfl)
      clear hdep hsame hi hlate hfr hkeep
      exact .inl ⟨wanted_none rfl, showsO_pure hsn rfl (.bool false) (by simp only [execOp, Act.eval]; go_simp) rfl⟩
    | 14, hi =>
      cases (show some _ = some o from hi)
      have e55 : (f.tmps.getD 55 undef) = .bool false := depS (V := (VG9 X Y Z g2 g3 g8 a4 a6 c4 c6)) hdep 13 55 (by decide) (by kernel_rfl)
      clear hdep hsame hi hlate hfr hkeep
      exact .inl ⟨wanted_none rfl, showsO_move hsn rfl _ rfl e55⟩
    | 15, hi =>
      cases (show some _ = some o from hi)
      have e6 : f.tmps.getD 6 undef = .slice a6 (1 + 1) c6 := hlate 6 (earlyS (by kernel_rfl))
      have eg : f.tmps.getD 56 undef = .bool false := depS (V := (VG9 X Y Z g2 g3 g8 a4 a6 c4 c6)) hdep 14 56 (by decide) (by kernel_rfl)
      clear hdep hsame hi hlate hfr hkeep
      exact .inl ⟨wanted_of 14 rfl eg (by kernel_rfl), showsO_move hsn rfl _ rfl e6⟩
    | 16, hi =>
      cases (show some _ = some o from hi)
      have eg : f.tmps.getD 56 undef = .bool false := depS (V := (VG9 X Y Z g2 g3 g8 a4 a6 c4 c6)) hdep 14 56 (by decide) (by kernel_rfl)
      clear hdep hsame hi hlate hfr hkeep
      exact .inl ⟨wanted_of 14 rfl eg (by kernel_rfl), showsO_build hsn rfl 52 #[(1, .const (.int .u64 1))] rfl #[.int .u8 0, .int .u64 1] (by simp only [List.map_toArray, List.map_cons, List.map_nil, Act.eval]; exact built_coord1 _) rfl⟩
    | 17, hi =>
      cases (show some _ = some o from hi)
      have e3 : f.tmps.getD 3 undef = .pointer (some ⟨g3, 0, none⟩) := hlate 3 (earlyS (by kernel_rfl))
      have eg : f.tmps.getD 56 undef = .bool false := depS (V := (VG9 X Y Z g2 g3 g8 a4 a6 c4 c6)) hdep 14 56 (by decide) (by kernel_rfl)
      clear hdep hsame hi hlate hfr hkeep
      exact .inl ⟨wanted_of 14 rfl eg (by kernel_rfl), showsO_row hsn rfl 33 (.tmp 3) rfl g3 e3 (ocells (Y)) ((hb6.block _ (Array.getElem?_eq_some_iff.1 M33.out).1).trans M33.out) underH rfl (hszL Y32.out) rfl⟩
    | 18, hi =>
      cases (show some _ = some o from hi)
      have e58 : (f.tmps.getD 58 undef) = .agg #[.int .u8 0, .int .u64 1] := depS (V := (VG9 X Y Z g2 g3 g8 a4 a6 c4 c6)) hdep 16 58 (by decide) (by kernel_rfl)
      have e59 : (f.tmps.getD 59 undef) = .agg (ocells (Y)) := depS (V := (VG9 X Y Z g2 g3 g8 a4 a6 c4 c6)) hdep 17 59 (by decide) (by kernel_rfl)
      have eg : f.tmps.getD 56 undef = .bool false := depS (V := (VG9 X Y Z g2 g3 g8 a4 a6 c4 c6)) hdep 14 56 (by decide) (by kernel_rfl)
      clear hdep hsame hi hlate hfr hkeep
      exact .inl ⟨wanted_of 14 rfl eg (by kernel_rfl), showsO_build hsn rfl 54 #[(0, .tmp 58), (1, .tmp 59)] rfl (ncell (0, 1, Y)) (by simp only [List.map_toArray, List.map_cons, List.map_nil, Act.eval]; rw [e58, e59]; exact built_node 0 1 Y Y32.out) rfl⟩
    | 19, hi =>
      cases (show some _ = some o from hi)
      have eg : f.tmps.getD 56 undef = .bool false := depS (V := (VG9 X Y Z g2 g3 g8 a4 a6 c4 c6)) hdep 14 56 (by decide) (by kernel_rfl)
      clear hdep hsame hi hlate hfr hkeep
      exact .inl ⟨wanted_of 14 rfl eg (by kernel_rfl), showsO_build hsn rfl 52 #[(0, .const (.int .u8 1))] rfl #[.int .u8 1, .int .u64 0] (by simp only [List.map_toArray, List.map_cons, List.map_nil, Act.eval]; exact built_coord0 _) rfl⟩
    | 20, hi =>
      cases (show some _ = some o from hi)
      have e8 : f.tmps.getD 8 undef = .pointer (some ⟨g8, 0, none⟩) := hlate 8 (earlyS (by kernel_rfl))
      have eg : f.tmps.getD 56 undef = .bool false := depS (V := (VG9 X Y Z g2 g3 g8 a4 a6 c4 c6)) hdep 14 56 (by decide) (by kernel_rfl)
      clear hdep hsame hi hlate hfr hkeep
      exact .inl ⟨wanted_of 14 rfl eg (by kernel_rfl), showsO_row hsn rfl 33 (.tmp 8) rfl g8 e8 (ocells (Z)) ((hb6.block _ (Array.getElem?_eq_some_iff.1 M80.out).1).trans M80.out) underH rfl (hszL Z32.out) rfl⟩
    | 21, hi =>
      cases (show some _ = some o from hi)
      have e61 : (f.tmps.getD 61 undef) = .agg #[.int .u8 1, .int .u64 0] := depS (V := (VG9 X Y Z g2 g3 g8 a4 a6 c4 c6)) hdep 19 61 (by decide) (by kernel_rfl)
      have e62 : (f.tmps.getD 62 undef) = .agg (ocells (Z)) := depS (V := (VG9 X Y Z g2 g3 g8 a4 a6 c4 c6)) hdep 20 62 (by decide) (by kernel_rfl)
      have eg : f.tmps.getD 56 undef = .bool false := depS (V := (VG9 X Y Z g2 g3 g8 a4 a6 c4 c6)) hdep 14 56 (by decide) (by kernel_rfl)
      clear hdep hsame hi hlate hfr hkeep
      exact .inl ⟨wanted_of 14 rfl eg (by kernel_rfl), showsO_build hsn rfl 54 #[(0, .tmp 61), (1, .tmp 62)] rfl (ncell (1, 0, Z)) (by simp only [List.map_toArray, List.map_cons, List.map_nil, Act.eval]; rw [e61, e62]; exact built_node 1 0 Z Z32.out) rfl⟩
    | 22, hi =>
      cases (show some _ = some o from hi)
      have e60 : (f.tmps.getD 60 undef) = .agg (ncell (0, 1, Y)) := depS (V := (VG9 X Y Z g2 g3 g8 a4 a6 c4 c6)) hdep 18 60 (by decide) (by kernel_rfl)
      have e63 : (f.tmps.getD 63 undef) = .agg (ncell (1, 0, Z)) := depS (V := (VG9 X Y Z g2 g3 g8 a4 a6 c4 c6)) hdep 21 63 (by decide) (by kernel_rfl)
      have eg : f.tmps.getD 56 undef = .bool false := depS (V := (VG9 X Y Z g2 g3 g8 a4 a6 c4 c6)) hdep 14 56 (by decide) (by kernel_rfl)
      clear hdep hsame hi hlate hfr hkeep
      exact .inl ⟨wanted_of 14 rfl eg (by kernel_rfl), showsO_built hsn rfl 2 54 ((ncell (0, 1, Y)) ++ (ncell (1, 0, Z))) (run_bs_node2 u (.tmp 60) (.tmp 63) rfl (ncell (0, 1, Y)) (ncell (1, 0, Z)) (ncell_size Y32.out) (ncell_size Z32.out) e60 e63) (fun h => h)⟩
    | 23, hi =>
      cases (show some _ = some o from hi)
      have e57 : (f.tmps.getD 57 undef) = .slice a6 (1 + 1) c6 := depS (V := (VG9 X Y Z g2 g3 g8 a4 a6 c4 c6)) hdep 15 57 (by decide) (by kernel_rfl)
      have e64 : BuiltV own u (f.tmps.getD 64 undef) 2 54 ((ncell (0, 1, Y)) ++ (ncell (1, 0, Z))) := depS (V := (VG9 X Y Z g2 g3 g8 a4 a6 c4 c6)) hdep 22 64 (by decide) (by kernel_rfl)
      have eg : f.tmps.getD 56 undef = .bool false := depS (V := (VG9 X Y Z g2 g3 g8 a4 a6 c4 c6)) hdep 14 56 (by decide) (by kernel_rfl)
      clear hdep hsame hi hlate hfr hkeep
      obtain ⟨gb, eb, hnb⟩ := nss_built (ps := [(0, 1, Y), (1, 0, Z)]) e64 (by simp [ncells]) (by simp [Y32.out, Z32.out]) rfl (by decide)
      clear e64
      have e64 := eb
      have c := sameN_any u _ _ _ [(0, 1, Y), (1, 0, Z)] _ _ _ [(0, 1, Y), (1, 0, Z)] (nss_own (own_keep O61.out (Keep.of_below hb6 (fun _ => False)) (fun _ _ h => h)) (by simp [Y32.out, Z32.out]) rfl) hnb
      rw [beq_self_eq_true] at c
      exact .inl ⟨wanted_of 14 rfl eg (by kernel_rfl), showsO_call1 hsn rfl 15 #[.slice a6 (1 + 1) c6, .slice (some ⟨gb, 0, none⟩) 2 2] (by simp only [execOp, Act.eval]; go_simp) (c) (fun _ => rfl)⟩
    | 24, hi =>
      cases (show some _ = some o from hi)
      have e65 : (f.tmps.getD 65 undef) = .bool true := depS (V := (VG9 X Y Z g2 g3 g8 a4 a6 c4 c6)) hdep 23 65 (by decide) (by kernel_rfl)
      have eg : f.tmps.getD 56 undef = .bool false := depS (V := (VG9 X Y Z g2 g3 g8 a4 a6 c4 c6)) hdep 14 56 (by decide) (by kernel_rfl)
      clear hdep hsame hi hlate hfr hkeep
      exact .inl ⟨wanted_of 14 rfl eg (by kernel_rfl), showsO_pure hsn rfl (.bool false) (by simp only [execOp, Act.eval]; go_simp) rfl⟩
    | 25, hi =>
      cases (show some _ = some o from hi)
      have e56 : (f.tmps.getD 56 undef) = .bool false := depS (V := (VG9 X Y Z g2 g3 g8 a4 a6 c4 c6)) hdep 14 56 (by decide) (by kernel_rfl)
      have e66 : (f.tmps.getD 66 undef) = .bool false := depS (V := (VG9 X Y Z g2 g3 g8 a4 a6 c4 c6)) hdep 24 66 (by decide) (by kernel_rfl)
      clear hdep hsame hi hlate hfr hkeep
      exact .inl ⟨wanted_none rfl, showsO_pure hsn rfl (.bool false) (by simp only [execOp, Act.eval]; go_simp) rfl⟩
    | n + 26, hi => exact absurd hi (by simp)
  intro f u8 own hsame hsn hall
  have q42 : f.tmps.getD 42 undef = .nilIface := finO (V := (VG9 X Y Z g2 g3 g8 a4 a6 c4 c6)) hall 0 42 rfl
  have q43 : f.tmps.getD 43 undef = .bool false := finO (V := (VG9 X Y Z g2 g3 g8 a4 a6 c4 c6)) hall 1 43 rfl
  have q44 : f.tmps.getD 44 undef = .bool false := finO (V := (VG9 X Y Z g2 g3 g8 a4 a6 c4 c6)) hall 2 44 rfl
  have q45 : f.tmps.getD 45 undef = .nilIface := finO (V := (VG9 X Y Z g2 g3 g8 a4 a6 c4 c6)) hall 3 45 rfl
  have q46 : f.tmps.getD 46 undef = .bool false := finO (V := (VG9 X Y Z g2 g3 g8 a4 a6 c4 c6)) hall 4 46 rfl
  have q47 : f.tmps.getD 47 undef = .bool false := finO (V := (VG9 X Y Z g2 g3 g8 a4 a6 c4 c6)) hall 5 47 rfl
  have q48 : f.tmps.getD 48 undef = .bool false := finO (V := (VG9 X Y Z g2 g3 g8 a4 a6 c4 c6)) hall 6 48 rfl
  have q49 : f.tmps.getD 49 undef = .slice a4 (0 + 1) c4 := finO (V := (VG9 X Y Z g2 g3 g8 a4 a6 c4 c6)) hall 7 49 rfl
  have q50 : f.tmps.getD 50 undef = .agg (ocells (X)) := finO (V := (VG9 X Y Z g2 g3 g8 a4 a6 c4 c6)) hall 8 50 rfl
  have q51 : f.tmps.getD 51 undef = .agg (ncell (0, 0, X)) := finO (V := (VG9 X Y Z g2 g3 g8 a4 a6 c4 c6)) hall 9 51 rfl
  obtain ⟨g52, q52, o52, m52⟩ : BuiltV own u8 (f.tmps.getD 52 undef) 1 54 (ncell (0, 0, X)) := finO (V := (VG9 X Y Z g2 g3 g8 a4 a6 c4 c6)) hall 10 52 rfl
  have q53 : f.tmps.getD 53 undef = .bool true := finO (V := (VG9 X Y Z g2 g3 g8 a4 a6 c4 c6)) hall 11 53 rfl
  have q54 : f.tmps.getD 54 undef = .bool false := finO (V := (VG9 X Y Z g2 g3 g8 a4 a6 c4 c6)) hall 12 54 rfl
  have q55 : f.tmps.getD 55 undef = .bool false := finO (V := (VG9 X Y Z g2 g3 g8 a4 a6 c4 c6)) hall 13 55 rfl
  have q56 : f.tmps.getD 56 undef = .bool false := finO (V := (VG9 X Y Z g2 g3 g8 a4 a6 c4 c6)) hall 14 56 rfl
  have q57 : f.tmps.getD 57 undef = .slice a6 (1 + 1) c6 := finO (V := (VG9 X Y Z g2 g3 g8 a4 a6 c4 c6)) hall 15 57 rfl
  have q58 : f.tmps.getD 58 undef = .agg #[.int .u8 0, .int .u64 1] := finO (V := (VG9 X Y Z g2 g3 g8 a4 a6 c4 c6)) hall 16 58 rfl
  have q59 : f.tmps.getD 59 undef = .agg (ocells (Y)) := finO (V := (VG9 X Y Z g2 g3 g8 a4 a6 c4 c6)) hall 17 59 rfl
  have q60 : f.tmps.getD 60 undef = .agg (ncell (0, 1, Y)) := finO (V := (VG9 X Y Z g2 g3 g8 a4 a6 c4 c6)) hall 18 60 rfl
  have q61 : f.tmps.getD 61 undef = .agg #[.int .u8 1, .int .u64 0] := finO (V := (VG9 X Y Z g2 g3 g8 a4 a6 c4 c6)) hall 19 61 rfl
  have q62 : f.tmps.getD 62 undef = .agg (ocells (Z)) := finO (V := (VG9 X Y Z g2 g3 g8 a4 a6 c4 c6)) hall 20 62 rfl
  have q63 : f.tmps.getD 63 undef = .agg (ncell (1, 0, Z)) := finO (V := (VG9 X Y Z g2 g3 g8 a4 a6 c4 c6)) hall 21 63 rfl
  obtain ⟨g64, q64, o64, m64⟩ : BuiltV own u8 (f.tmps.getD 64 undef) 2 54 ((ncell (0, 1, Y)) ++ (ncell (1, 0, Z))) := finO (V := (VG9 X Y Z g2 g3 g8 a4 a6 c4 c6)) hall 22 64 rfl
  have q65 : f.tmps.getD 65 undef = .bool true := finO (V := (VG9 X Y Z g2 g3 g8 a4 a6 c4 c6)) hall 23 65 rfl
  have q66 : f.tmps.getD 66 undef = .bool false := finO (V := (VG9 X Y Z g2 g3 g8 a4 a6 c4 c6)) hall 24 66 rfl
  have q67 : f.tmps.getD 67 undef = .bool false := finO (V := (VG9 X Y Z g2 g3 g8 a4 a6 c4 c6)) hall 25 67 rfl
  obtain rfl := frame_eq hsame [(42, .nilIface), (43, .bool false), (44, .bool false), (45, .nilIface), (46, .bool false), (47, .bool false), (48, .bool false), (49, .slice a4 (0 + 1) c4), (50, .agg (ocells (X))), (51, .agg (ncell (0, 0, X))), (52, .slice (some ⟨g52, 0, none⟩) 1 1), (53, .bool true), (54, .bool false), (55, .bool false), (56, .bool false), (57, .slice a6 (1 + 1) c6), (58, .agg #[.int .u8 0, .int .u64 1]), (59, .agg (ocells (Y))), (60, .agg (ncell (0, 1, Y))), (61, .agg #[.int .u8 1, .int .u64 0]), (62, .agg (ocells (Z))), (63, .agg (ncell (1, 0, Z))), (64, .slice (some ⟨g64, 0, none⟩) 2 2), (65, .bool true), (66, .bool false), (67, .bool false)] (by kernel_rfl) ⟨q42, q43, q44, q45, q46, q47, q48, q49, q50, q51, q52, q53, q54, q55, q56, q57, q58, q59, q60, q61, q62, q63, q64, q65, q66, q67, trivial⟩
  clear hall hsame q42 q43 q44 q45 q46 q47 q48 q49 q50 q51 q52 q53 q54 q55 q56 q57 q58 q59 q60 q61 q62 q63 q64 q65 q66 q67
  simp only [List.foldl, List.setIfInBounds_toArray, List.set_cons_succ, List.set_cons_zero]
  have hb := hsn.below (B := u7.heap.size) (fun _ _ => rfl) (Nat.le_refl _)
  have K7 := Bx.mk (K6.out.trans (hb.mono K6.out.size)); have B7 := Bx.mk (B6.out.below hb); have M25 := Bx.mk ((hb.block _ (Array.getElem?_eq_some_iff.1 M24.out).1).trans M24.out); have M34 := Bx.mk ((hb.block _ (Array.getElem?_eq_some_iff.1 M33.out).1).trans M33.out); have O43 := Bx.mk (own_keep O42.out (Keep.of_below hb (fun _ => False)) (fun _ _ h => h)); have O62 := Bx.mk (own_keep O61.out (Keep.of_below hb (fun _ => False)) (fun _ _ h => h)); have M81 := Bx.mk ((hb.block _ (Array.getElem?_eq_some_iff.1 M80.out).1).trans M80.out)
  clear hb K6 B6 M24 M33 O42 O61 M80
  clear hsn
  have CL : Bx (∀ u, Below u8.heap.size u8 u → Calls Tryd.prog 11 #[.int .u64 3, .slice none 0 0] u fun e w' => e = .returned (.tuple #[.pointer none, .iface 124 (.pointer (some (A 1)))]) ∧ Below u.heap.size u w') := ⟨fun u hu => (load_any A u 3 (by decide) none 0 0 [] ⟨(fun _ h => (by cases h)), none, 0, rfl, Nat.le_refl _, (by unfold maxLen; decide), fun h => absurd rfl h⟩ (fun _ => ⟨rfl, rfl⟩) (HH.out.below (K7.out.trans (hu.mono K7.out.size))).hs).mono fun e w' h => ⟨by
    have h1 := h.1
    unfold LoadP at h1
    rwa [if_neg (by decide), if_pos (show ([] : List (List UInt8)).length ≠ pcnt 3 by decide)] at h1, h.2⟩⟩
  go_upto_region 11 with (fail)
  refine wp_region_seq8 (n := 94) VG11mk (fun _ => none) (VG11 A) (by kernel_rfl) rfl (fun _ _ => rfl) (fun j i hj _ => by cases hj) ?_ ?_ ?_
  · exact fun oi oj v own w own' w' hij h r => VG11_mono A oi oj v own w own' w' (by omega)  h r
  · intro oi o hi f u own hsame hsn hfr hlate hkeep8 hdep
    have hkeep := hkeep8 _ (Nat.le_refl _)
    have hb6 := hsn.below (B := u8.heap.size) (fun _ _ => rfl) (Nat.le_refl _)
    match oi, hi with
    | 0, hi =>
      cases (show some _ = some o from hi)
      clear hdep hsame hi hlate hfr hkeep
      have c := CL.out u hb6
      exact .inl ⟨wanted_none rfl, showsO_call1 hsn rfl 11 #[.int .u64 3, .slice none 0 0] (by simp only [execOp, Act.eval]; go_simp) (c) (fun _ => rfl)⟩
    | 1, hi =>
      cases (show some _ = some o from hi)
      have e69 : (f.tmps.getD 69 undef) = .tuple #[.pointer none, .iface 124 (.pointer (some (A 1)))] := depS (V := (VG11 A)) hdep 0 69 (by decide) (by kernel_rfl)
      clear hdep hsame hi hlate hfr hkeep
      exact .inl ⟨wanted_none rfl, showsO_move hsn rfl _ rfl e69⟩
    | 2, hi =>
      cases (show some _ = some o from hi)
      have e68 : (f.tmps.getD 68 undef) = .tuple #[.pointer none, .iface 124 (.pointer (some (A 1)))] := depS (V := (VG11 A)) hdep 1 68 (by decide) (by kernel_rfl)
      clear hdep hsame hi hlate hfr hkeep
      exact .inl ⟨wanted_none rfl, showsO_pure hsn rfl (.pointer none) (by simp only [execOp, Act.eval]; go_simp) rfl⟩
    | 3, hi =>
      cases (show some _ = some o from hi)
      have e68 : (f.tmps.getD 68 undef) = .tuple #[.pointer none, .iface 124 (.pointer (some (A 1)))] := depS (V := (VG11 A)) hdep 1 68 (by decide) (by kernel_rfl)
      clear hdep hsame hi hlate hfr hkeep
      exact .inl ⟨wanted_none rfl, showsO_pure hsn rfl (.iface 124 (.pointer (some (A 1)))) (by simp only [execOp, Act.eval]; go_simp) rfl⟩
    | 4, hi =>
      cases (show some _ = some o from hi)
      have e70 : (f.tmps.getD 70 undef) = .pointer none := depS (V := (VG11 A)) hdep 2 70 (by decide) (by kernel_rfl)
      clear hdep hsame hi hlate hfr hkeep
      exact .inl ⟨wanted_none rfl, showsO_assign hsn rfl _ rfl e70⟩
    | 5, hi =>
      cases (show some _ = some o from hi)
      have e71 : (f.tmps.getD 71 undef) = .iface 124 (.pointer (some (A 1))) := depS (V := (VG11 A)) hdep 3 71 (by decide) (by kernel_rfl)
      clear hdep hsame hi hlate hfr hkeep
      exact .inl ⟨wanted_none rfl, showsO_assign hsn rfl _ rfl e71⟩
    | n + 6, hi => exact absurd hi (by simp)
  intro f u9 own hsame hsn hall
  have q69 : f.tmps.getD 69 undef = .tuple #[.pointer none, .iface 124 (.pointer (some (A 1)))] := finO (V := (VG11 A)) hall 0 69 rfl
  have q68 : f.tmps.getD 68 undef = .tuple #[.pointer none, .iface 124 (.pointer (some (A 1)))] := finO (V := (VG11 A)) hall 1 68 rfl
  have q70 : f.tmps.getD 70 undef = .pointer none := finO (V := (VG11 A)) hall 2 70 rfl
  have q71 : f.tmps.getD 71 undef = .iface 124 (.pointer (some (A 1))) := finO (V := (VG11 A)) hall 3 71 rfl
  have q9 : f.tmps.getD 9 undef = .pointer none := finO (V := (VG11 A)) hall 4 9 rfl
  have q10 : f.tmps.getD 10 undef = .iface 124 (.pointer (some (A 1))) := finO (V := (VG11 A)) hall 5 10 rfl
  obtain rfl := frame_eq hsame [(69, .tuple #[.pointer none, .iface 124 (.pointer (some (A 1)))]), (68, .tuple #[.pointer none, .iface 124 (.pointer (some (A 1)))]), (70, .pointer none), (71, .iface 124 (.pointer (some (A 1)))), (9, .pointer none), (10, .iface 124 (.pointer (some (A 1))))] (by kernel_rfl) ⟨q69, q68, q70, q71, q9, q10, trivial⟩
  clear hall hsame q69 q68 q70 q71 q9 q10
  simp only [List.foldl, List.setIfInBounds_toArray, List.set_cons_succ, List.set_cons_zero]
  have hb := hsn.below (B := u8.heap.size) (fun _ _ => rfl) (Nat.le_refl _)
  clear CL
  have K8 := Bx.mk (K7.out.trans (hb.mono K7.out.size)); have B8 := Bx.mk (B7.out.below hb); have M26 := Bx.mk ((hb.block _ (Array.getElem?_eq_some_iff.1 M25.out).1).trans M25.out); have M35 := Bx.mk ((hb.block _ (Array.getElem?_eq_some_iff.1 M34.out).1).trans M34.out); have O44 := Bx.mk (own_keep O43.out (Keep.of_below hb (fun _ => False)) (fun _ _ h => h)); have O63 := Bx.mk (own_keep O62.out (Keep.of_below hb (fun _ => False)) (fun _ _ h => h)); have M82 := Bx.mk ((hb.block _ (Array.getElem?_eq_some_iff.1 M81.out).1).trans M81.out)
  clear hb K7 B7 M25 M34 O43 O62 M81
  clear hsn
  have CS : Bx (∀ u, Below u9.heap.size u9 u → Calls Tryd.prog 12 #[.pointer (some ⟨b, 0, none⟩)] u fun e w' => e = .returned (.int .u64 2) ∧ Below u.heap.size u w') := ⟨fun u hu => (bsize_any _ u b _ _ _ (B8.out.below hu)).mono fun e w' h => ⟨h.1, h.2 ▸ Below.refl _ _⟩⟩
  have CR : Bx (∀ u, Below u9.heap.size u9 u → Calls Tryd.prog 14 #[.pointer (some ⟨b, 0, none⟩)] u fun e w' => e = .returned (.agg (ocells Z)) ∧ Below u.heap.size u w') := ⟨fun u hu => by
    have c := broot_any _ u b _ [Z] _ (B8.out.below hu) (HH.out.below (K8.out.trans (hu.mono K8.out.size))).hs.tab (show 1 ≤ 64 by decide)
    rwa [show upB [Z] = Z from rfl, hv_agg] at c⟩
  have HE : Bx (∀ u, Below u9.heap.size u9 u → Errs u A) := ⟨fun u hu => (HH.out.below (K8.out.trans (hu.mono K8.out.size))).hs.err⟩
  go_upto_region 12 with (fail)
  refine wp_region_own8 (n := 94) VG12mk (fun _ => none) (VG12 A b Z g8) (by kernel_rfl) (by kernel_rfl) rfl (fun _ _ => rfl) (fun j i hj _ => by cases hj) ?_ ?_ ?_
  · exact fun oi oj v own w own' w' hij _ h r => VG12_mono A b Z g8 oi oj v own w own' w' hij h r
  · intro oi o hi f u own hsame hsn hfr hlate hkeep8 hdep
    have hkeep := hkeep8 _ (.inl rfl)
    have hb6 := hsn.below (B := u9.heap.size) (fun _ _ => rfl) (Nat.le_refl _)
    match oi, hi with
    | 0, hi =>
      cases (show some _ = some o from hi)
      have e1 : f.tmps.getD 1 undef = .pointer (some ⟨b, 0, none⟩) := hsame.slot 1 (fun i o h => invB2_not 1 (by kernel_rfl) h)
      clear hdep hsame hi hlate hfr hkeep
      exact .inl ⟨wanted_none rfl, showsO_move hsn rfl _ rfl e1⟩
    | 1, hi =>
      cases (show some _ = some o from hi)
      have e72 : (f.tmps.getD 72 undef) = .pointer (some ⟨b, 0, none⟩) := depO (V := (VG12 A b Z g8)) hdep 0 72 (by kernel_rfl) (by kernel_rfl)
      clear hdep hsame hi hlate hfr hkeep
      have c := CS.out u hb6
      exact .inl ⟨wanted_none rfl, showsO_call1 hsn rfl 12 #[.pointer (some ⟨b, 0, none⟩)] (by simp only [execOp, Act.eval]; go_simp) (c) (fun _ => rfl)⟩
    | 2, hi =>
      cases (show some _ = some o from hi)
      have e73 : (f.tmps.getD 73 undef) = .int .u64 2 := depO (V := (VG12 A b Z g8)) hdep 1 73 (by kernel_rfl) (by kernel_rfl)
      clear hdep hsame hi hlate hfr hkeep
      exact .inl ⟨wanted_none rfl, showsO_pure hsn rfl (.bool true) (by simp only [execOp, Act.eval]; go_simp) rfl⟩
    | 3, hi =>
      cases (show some _ = some o from hi)
      have e74 : (f.tmps.getD 74 undef) = .bool true := depO (V := (VG12 A b Z g8)) hdep 2 74 (by kernel_rfl) (by kernel_rfl)
      clear hdep hsame hi hlate hfr hkeep
      exact .inl ⟨wanted_none rfl, showsO_move hsn rfl _ rfl e74⟩
    | 4, hi =>
      cases (show some _ = some o from hi)
      have e1 : f.tmps.getD 1 undef = .pointer (some ⟨b, 0, none⟩) := hsame.slot 1 (fun i o h => invB2_not 1 (by kernel_rfl) h)
      have eg : f.tmps.getD 75 undef = .bool true := depO (V := (VG12 A b Z g8)) hdep 3 75 (by kernel_rfl) (by kernel_rfl)
      clear hdep hsame hi hlate hfr hkeep
      exact .inl ⟨wanted_of 3 rfl eg (by kernel_rfl), showsO_move hsn rfl _ rfl e1⟩
    | 5, hi =>
      cases (show some _ = some o from hi)
      have e76 : (f.tmps.getD 76 undef) = .pointer (some ⟨b, 0, none⟩) := depO (V := (VG12 A b Z g8)) hdep 4 76 (by kernel_rfl) (by kernel_rfl)
      have eg : f.tmps.getD 75 undef = .bool true := depO (V := (VG12 A b Z g8)) hdep 3 75 (by kernel_rfl) (by kernel_rfl)
      clear hdep hsame hi hlate hfr hkeep
      have c := CR.out u hb6
      exact .inl ⟨wanted_of 3 rfl eg (by kernel_rfl), showsO_call1 hsn rfl 14 #[.pointer (some ⟨b, 0, none⟩)] (by simp only [execOp, Act.eval]; go_simp) (c) (fun _ => rfl)⟩
    | 6, hi =>
      cases (show some _ = some o from hi)
      have e8 : f.tmps.getD 8 undef = .pointer (some ⟨g8, 0, none⟩) := hsame.slot 8 (fun i o h => invB2_not 8 (by kernel_rfl) h)
      have eg : f.tmps.getD 75 undef = .bool true := depO (V := (VG12 A b Z g8)) hdep 3 75 (by kernel_rfl) (by kernel_rfl)
      clear hdep hsame hi hlate hfr hkeep
      exact .inl ⟨wanted_of 3 rfl eg (by kernel_rfl), showsO_row hsn rfl 33 (.tmp 8) rfl g8 e8 (ocells (Z)) ((hb6.block _ (Array.getElem?_eq_some_iff.1 M82.out).1).trans M82.out) underH rfl (hszL Z32.out) rfl⟩
    | 7, hi =>
      cases (show some _ = some o from hi)
      have e77 : (f.tmps.getD 77 undef) = .agg (ocells (Z)) := depO (V := (VG12 A b Z g8)) hdep 5 77 (by kernel_rfl) (by kernel_rfl)
      have e78 : (f.tmps.getD 78 undef) = .agg (ocells (Z)) := depO (V := (VG12 A b Z g8)) hdep 6 78 (by kernel_rfl) (by kernel_rfl)
      have eg : f.tmps.getD 75 undef = .bool true := depO (V := (VG12 A b Z g8)) hdep 3 75 (by kernel_rfl) (by kernel_rfl)
      clear hdep hsame hi hlate hfr hkeep
      have q := fun u => hv_eq u (Z) (Z) Z32.out Z32.out
      simp only [hv_agg, beq_self_eq_true] at q
      exact .inl ⟨wanted_of 3 rfl eg (by kernel_rfl), showsO_pure hsn rfl (.bool true) (by simp only [execOp, Act.eval]; go_simp) rfl⟩
    | 8, hi =>
      cases (show some _ = some o from hi)
      have e75 : (f.tmps.getD 75 undef) = .bool true := depO (V := (VG12 A b Z g8)) hdep 3 75 (by kernel_rfl) (by kernel_rfl)
      have e79 : (f.tmps.getD 79 undef) = .bool true := depO (V := (VG12 A b Z g8)) hdep 7 79 (by kernel_rfl) (by kernel_rfl)
      clear hdep hsame hi hlate hfr hkeep
      exact .inl ⟨wanted_none rfl, showsO_pure hsn rfl (.bool true) (by simp only [execOp, Act.eval]; go_simp) rfl⟩
    | 9, hi =>
      cases (show some _ = some o from hi)
      have e80 : (f.tmps.getD 80 undef) = .bool true := depO (V := (VG12 A b Z g8)) hdep 8 80 (by kernel_rfl) (by kernel_rfl)
      clear hdep hsame hi hlate hfr hkeep
      exact .inl ⟨wanted_none rfl, showsO_move hsn rfl _ rfl e80⟩
    | 10, hi =>
      cases (show some _ = some o from hi)
      have e8 : f.tmps.getD 8 undef = .pointer (some ⟨g8, 0, none⟩) := hsame.slot 8 (fun i o h => invB2_not 8 (by kernel_rfl) h)
      have eg : f.tmps.getD 81 undef = .bool true := depO (V := (VG12 A b Z g8)) hdep 9 81 (by kernel_rfl) (by kernel_rfl)
      clear hdep hsame hi hlate hfr hkeep
      exact .inl ⟨wanted_of 9 rfl eg (by kernel_rfl), showsO_row hsn rfl 33 (.tmp 8) rfl g8 e8 (ocells (Z)) ((hb6.block _ (Array.getElem?_eq_some_iff.1 M82.out).1).trans M82.out) underH rfl (hszL Z32.out) rfl⟩
    | 11, hi =>
      cases (show some _ = some o from hi)
      have eg : f.tmps.getD 81 undef = .bool true := depO (V := (VG12 A b Z g8)) hdep 9 81 (by kernel_rfl) (by kernel_rfl)
      clear hdep hsame hi hlate hfr hkeep
      exact .inl ⟨wanted_of 9 rfl eg (by kernel_rfl), showsO_build hsn rfl 33 #[] rfl (ocells zero32') (by simp only [List.map_toArray, List.map_nil]; exact built_zeroH) rfl⟩
    | 12, hi =>
      cases (show some _ = some o from hi)
      have e82 : (f.tmps.getD 82 undef) = .agg (ocells (Z)) := depO (V := (VG12 A b Z g8)) hdep 10 82 (by kernel_rfl) (by kernel_rfl)
      have e83 : (f.tmps.getD 83 undef) = .agg (ocells (zero32')) := depO (V := (VG12 A b Z g8)) hdep 11 83 (by kernel_rfl) (by kernel_rfl)
      have eg : f.tmps.getD 81 undef = .bool true := depO (V := (VG12 A b Z g8)) hdep 9 81 (by kernel_rfl) (by kernel_rfl)
      clear hdep hsame hi hlate hfr hkeep
      have q := fun u => hv_neq u (Z) (zero32') Z32.out (by decide)
      simp only [hv_agg, ZZ.out, Bool.not_false] at q
      exact .inl ⟨wanted_of 9 rfl eg (by kernel_rfl), showsO_pure hsn rfl (.bool true) (by simp only [execOp, Act.eval]; go_simp) rfl⟩
    | 13, hi =>
      cases (show some _ = some o from hi)
      have e81 : (f.tmps.getD 81 undef) = .bool true := depO (V := (VG12 A b Z g8)) hdep 9 81 (by kernel_rfl) (by kernel_rfl)
      have e84 : (f.tmps.getD 84 undef) = .bool true := depO (V := (VG12 A b Z g8)) hdep 12 84 (by kernel_rfl) (by kernel_rfl)
      clear hdep hsame hi hlate hfr hkeep
      exact .inl ⟨wanted_none rfl, showsO_pure hsn rfl (.bool true) (by simp only [execOp, Act.eval]; go_simp) rfl⟩
    | 14, hi =>
      cases (show some _ = some o from hi)
      have e85 : (f.tmps.getD 85 undef) = .bool true := depO (V := (VG12 A b Z g8)) hdep 13 85 (by kernel_rfl) (by kernel_rfl)
      clear hdep hsame hi hlate hfr hkeep
      exact .inl ⟨wanted_none rfl, showsO_move hsn rfl _ rfl e85⟩
    | 15, hi =>
      cases (show some _ = some o from hi)
      have e9 : f.tmps.getD 9 undef = .pointer none := hsame.slot 9 (fun i o h => invB2_not 9 (by kernel_rfl) h)
      have eg : f.tmps.getD 86 undef = .bool true := depO (V := (VG12 A b Z g8)) hdep 14 86 (by kernel_rfl) (by kernel_rfl)
      clear hdep hsame hi hlate hfr hkeep
      exact .inl ⟨wanted_of 14 rfl eg (by kernel_rfl), showsO_move hsn rfl _ rfl e9⟩
    | 16, hi =>
      cases (show some _ = some o from hi)
      have e87 : (f.tmps.getD 87 undef) = .pointer none := depO (V := (VG12 A b Z g8)) hdep 15 87 (by kernel_rfl) (by kernel_rfl)
      have eg : f.tmps.getD 86 undef = .bool true := depO (V := (VG12 A b Z g8)) hdep 14 86 (by kernel_rfl) (by kernel_rfl)
      clear hdep hsame hi hlate hfr hkeep
      exact .inl ⟨wanted_of 14 rfl eg (by kernel_rfl), showsO_pure hsn rfl (.bool true) (by simp only [execOp, Act.eval]; go_simp) rfl⟩
    | 17, hi =>
      cases (show some _ = some o from hi)
      have e86 : (f.tmps.getD 86 undef) = .bool true := depO (V := (VG12 A b Z g8)) hdep 14 86 (by kernel_rfl) (by kernel_rfl)
      have e88 : (f.tmps.getD 88 undef) = .bool true := depO (V := (VG12 A b Z g8)) hdep 16 88 (by kernel_rfl) (by kernel_rfl)
      clear hdep hsame hi hlate hfr hkeep
      exact .inl ⟨wanted_none rfl, showsO_pure hsn rfl (.bool true) (by simp only [execOp, Act.eval]; go_simp) rfl⟩
    | 18, hi =>
      cases (show some _ = some o from hi)
      have e89 : (f.tmps.getD 89 undef) = .bool true := depO (V := (VG12 A b Z g8)) hdep 17 89 (by kernel_rfl) (by kernel_rfl)
      clear hdep hsame hi hlate hfr hkeep
      exact .inl ⟨wanted_none rfl, showsO_move hsn rfl _ rfl e89⟩
    | 19, hi =>
      cases (show some _ = some o from hi)
      have e10 : f.tmps.getD 10 undef = .iface 124 (.pointer (some (A 1))) := hsame.slot 10 (fun i o h => invB2_not 10 (by kernel_rfl) h)
      have eg : f.tmps.getD 90 undef = .bool true := depO (V := (VG12 A b Z g8)) hdep 18 90 (by kernel_rfl) (by kernel_rfl)
      clear hdep hsame hi hlate hfr hkeep
      exact .inl ⟨wanted_of 18 rfl eg (by kernel_rfl), showsO_move hsn rfl _ rfl e10⟩
    | 20, hi =>
      cases (show some _ = some o from hi)
      have e91 : (f.tmps.getD 91 undef) = .iface 124 (.pointer (some (A 1))) := depO (V := (VG12 A b Z g8)) hdep 19 91 (by kernel_rfl) (by kernel_rfl)
      have eg : f.tmps.getD 90 undef = .bool true := depO (V := (VG12 A b Z g8)) hdep 18 90 (by kernel_rfl) (by kernel_rfl)
      clear hdep hsame hi hlate hfr hkeep
      have c := isE_any (HE.out u hb6) (ErrV.plain 1 (by decide)) 2
      exact .inl ⟨wanted_of 18 rfl eg (by kernel_rfl), showsO_call1 hsn rfl 17 #[.iface 124 (.pointer (some (A 1))), .int .i64 2] (by simp only [execOp, Act.eval]; go_simp) (c) (fun _ => rfl)⟩
    | 21, hi =>
      cases (show some _ = some o from hi)
      have e90 : (f.tmps.getD 90 undef) = .bool true := depO (V := (VG12 A b Z g8)) hdep 18 90 (by kernel_rfl) (by kernel_rfl)
      have e92 : (f.tmps.getD 92 undef) = .bool true := depO (V := (VG12 A b Z g8)) hdep 20 92 (by kernel_rfl) (by kernel_rfl)
      clear hdep hsame hi hlate hfr hkeep
      exact .inl ⟨wanted_none rfl, showsO_pure hsn rfl (.bool true) (by simp only [execOp, Act.eval]; go_simp) rfl⟩
    | 22, hi =>
      cases (show some _ = some o from hi)
      have e93 : (f.tmps.getD 93 undef) = .bool true := depO (V := (VG12 A b Z g8)) hdep 21 93 (by kernel_rfl) (by kernel_rfl)
      clear hdep hsame hi hlate hfr hkeep
      exact .inl ⟨wanted_none rfl, showsO_assign hsn rfl _ rfl e93⟩
    | n + 23, hi => exact absurd hi (by simp)
  intro f u10 own hsame hsn hall
  have q72 : f.tmps.getD 72 undef = .pointer (some ⟨b, 0, none⟩) := finO (V := (VG12 A b Z g8)) hall 0 72 rfl
  have q73 : f.tmps.getD 73 undef = .int .u64 2 := finO (V := (VG12 A b Z g8)) hall 1 73 rfl
  have q74 : f.tmps.getD 74 undef = .bool true := finO (V := (VG12 A b Z g8)) hall 2 74 rfl
  have q75 : f.tmps.getD 75 undef = .bool true := finO (V := (VG12 A b Z g8)) hall 3 75 rfl
  have q76 : f.tmps.getD 76 undef = .pointer (some ⟨b, 0, none⟩) := finO (V := (VG12 A b Z g8)) hall 4 76 rfl
  have q77 : f.tmps.getD 77 undef = .agg (ocells (Z)) := finO (V := (VG12 A b Z g8)) hall 5 77 rfl
  have q78 : f.tmps.getD 78 undef = .agg (ocells (Z)) := finO (V := (VG12 A b Z g8)) hall 6 78 rfl
  have q79 : f.tmps.getD 79 undef = .bool true := finO (V := (VG12 A b Z g8)) hall 7 79 rfl
  have q80 : f.tmps.getD 80 undef = .bool true := finO (V := (VG12 A b Z g8)) hall 8 80 rfl
  have q81 : f.tmps.getD 81 undef = .bool true := finO (V := (VG12 A b Z g8)) hall 9 81 rfl
  have q82 : f.tmps.getD 82 undef = .agg (ocells (Z)) := finO (V := (VG12 A b Z g8)) hall 10 82 rfl
  have q83 : f.tmps.getD 83 undef = .agg (ocells (zero32')) := finO (V := (VG12 A b Z g8)) hall 11 83 rfl
  have q84 : f.tmps.getD 84 undef = .bool true := finO (V := (VG12 A b Z g8)) hall 12 84 rfl
  have q85 : f.tmps.getD 85 undef = .bool true := finO (V := (VG12 A b Z g8)) hall 13 85 rfl
  have q86 : f.tmps.getD 86 undef = .bool true := finO (V := (VG12 A b Z g8)) hall 14 86 rfl
  have q87 : f.tmps.getD 87 undef = .pointer none := finO (V := (VG12 A b Z g8)) hall 15 87 rfl
  have q88 : f.tmps.getD 88 undef = .bool true := finO (V := (VG12 A b Z g8)) hall 16 88 rfl
  have q89 : f.tmps.getD 89 undef = .bool true := finO (V := (VG12 A b Z g8)) hall 17 89 rfl
  have q90 : f.tmps.getD 90 undef = .bool true := finO (V := (VG12 A b Z g8)) hall 18 90 rfl
  have q91 : f.tmps.getD 91 undef = .iface 124 (.pointer (some (A 1))) := finO (V := (VG12 A b Z g8)) hall 19 91 rfl
  have q92 : f.tmps.getD 92 undef = .bool true := finO (V := (VG12 A b Z g8)) hall 20 92 rfl
  have q93 : f.tmps.getD 93 undef = .bool true := finO (V := (VG12 A b Z g8)) hall 21 93 rfl
  have q0 : f.tmps.getD 0 undef = .bool true := finO (V := (VG12 A b Z g8)) hall 22 0 rfl
  obtain rfl := frame_eq hsame [(72, .pointer (some ⟨b, 0, none⟩)), (73, .int .u64 2), (74, .bool true), (75, .bool true), (76, .pointer (some ⟨b, 0, none⟩)), (77, .agg (ocells (Z))), (78, .agg (ocells (Z))), (79, .bool true), (80, .bool true), (81, .bool true), (82, .agg (ocells (Z))), (83, .agg (ocells (zero32'))), (84, .bool true), (85, .bool true), (86, .bool true), (87, .pointer none), (88, .bool true), (89, .bool true), (90, .bool true), (91, .iface 124 (.pointer (some (A 1)))), (92, .bool true), (93, .bool true), (0, .bool true)] (by kernel_rfl) ⟨q72, q73, q74, q75, q76, q77, q78, q79, q80, q81, q82, q83, q84, q85, q86, q87, q88, q89, q90, q91, q92, q93, q0, trivial⟩
  clear hall hsame q72 q73 q74 q75 q76 q77 q78 q79 q80 q81 q82 q83 q84 q85 q86 q87 q88 q89 q90 q91 q92 q93 q0
  simp only [List.foldl, List.setIfInBounds_toArray, List.set_cons_succ, List.set_cons_zero]
  have hb := hsn.below (B := u9.heap.size) (fun _ _ => rfl) (Nat.le_refl _)
  clear CS CR HE
  have K9 := Bx.mk (K8.out.trans (hb.mono K8.out.size)); have B9 := Bx.mk (B8.out.below hb); have M27 := Bx.mk ((hb.block _ (Array.getElem?_eq_some_iff.1 M26.out).1).trans M26.out); have M36 := Bx.mk ((hb.block _ (Array.getElem?_eq_some_iff.1 M35.out).1).trans M35.out); have O45 := Bx.mk (own_keep O44.out (Keep.of_below hb (fun _ => False)) (fun _ _ h => h)); have O64 := Bx.mk (own_keep O63.out (Keep.of_below hb (fun _ => False)) (fun _ _ h => h)); have M83 := Bx.mk ((hb.block _ (Array.getElem?_eq_some_iff.1 M82.out).1).trans M82.out)
  clear hb K8 B8 M26 M35 O44 O63 M82
  clear hsn
  go_wp2_with fail
  go_ret
  exact ⟨rfl, K9.out⟩
end Go.Proofs.YtbhcaalelfaceaaDoor
