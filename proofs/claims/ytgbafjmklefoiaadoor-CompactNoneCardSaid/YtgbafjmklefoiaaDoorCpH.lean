/- cartularylaw09.CompactNone walked. -/
import Derived.Test.YtgbafjmklefoiaaDoorCpG
namespace Go.Proofs.YtgbafjmklefoiaaDoor
set_option maxRecDepth 100000
open Go.RowKit
theorem zlenC : zero32'.length = 32 := by decide
theorem built_span00C : Tryd.prog.built 39 [] = some #[.int .u64 0, .int .u64 0] := by kernel_rfl
def VH4 (A : Nat → Addr) (_N r z : Nat) (p : List UInt8) (oi : Nat) (v : Value) (_own : Nat → Option Nat) (_w : World) : Prop :=
  match oi with
  | 0 => v = .pointer (some ⟨r, 0, none⟩)
  | 1 => v = .bool false
  | 2 => v = .bool false
  | 3 => v = .pointer none
  | 4 => v = .agg (ocells (p))
  | 5 => v = .iface 129 (.pointer (some (A 0)))
  | 6 => v = .bool true
  | 7 => v = .bool false
  | 8 => v = .bool false
  | 9 => v = .bool false
  | 10 => v = .pointer (some ⟨z, 0, none⟩)
  | 11 => v = .agg (ocells (p))
  | 12 => v = .iface 129 (.pointer (some (A 0)))
  | 13 => v = .bool true
  | 14 => v = .bool false
  | 15 => v = .bool false
  | 16 => v = .bool false
  | 17 => v = .pointer none
  | 18 => v = .pointer (some ⟨r, 0, none⟩)
  | 19 => v = .iface 129 (.pointer (some (A 0)))
  | 20 => v = .bool true
  | 21 => v = .bool false
  | 22 => v = .bool false
  | 23 => v = .bool false
  | 24 => v = .pointer (some ⟨z, 0, none⟩)
  | 25 => v = .pointer (some ⟨r, 0, none⟩)
  | 26 => v = .iface 129 (.pointer (some (A 0)))
  | 27 => v = .bool true
  | 28 => v = .bool false
  | 29 => v = .bool false
  | 30 => v = .bool false
  | 31 => v = .pointer (some ⟨r, 0, none⟩)
  | 32 => v = .pointer none
  | 33 => v = .iface 129 (.pointer (some (A 0)))
  | 34 => v = .bool true
  | 35 => v = .bool false
  | 36 => v = .bool false
  | 37 => v = .bool false
  | 38 => v = .pointer (some ⟨r, 0, none⟩)
  | 39 => v = .pointer (some ⟨z, 0, none⟩)
  | 40 => v = .iface 129 (.pointer (some (A 0)))
  | 41 => v = .bool true
  | 42 => v = .bool false
  | 43 => v = .bool false
  | _ => True
def VH4mk : Nat → Option Nat := fun _ => none
theorem VH4_mono (A : Nat → Addr) (N r z : Nat) (p : List UInt8) (oi oj : Nat) (v : Value) (own : Nat → Option Nat) (w : World) (own' : Nat → Option Nat) (w' : World) (hij : oi ≠ oj)   (h : VH4 A N r z p oj v own w) (_r1 : Rel VH4mk oi own w own' w') : VH4 A N r z p oj v own' w' := by
  unfold VH4 at h ⊢
  split at h
  · exact h
  · exact h
  · exact h
  · exact h
  · exact h
  · exact h
  · exact h
  · exact h
  · exact h
  · exact h
  · exact h
  · exact h
  · exact h
  · exact h
  · exact h
  · exact h
  · exact h
  · exact h
  · exact h
  · exact h
  · exact h
  · exact h
  · exact h
  · exact h
  · exact h
  · exact h
  · exact h
  · exact h
  · exact h
  · exact h
  · exact h
  · exact h
  · exact h
  · exact h
  · exact h
  · exact h
  · exact h
  · exact h
  · exact h
  · exact h
  · exact h
  · exact h
  · exact h
  · exact h
  · trivial

def VH6 (A : Nat → Addr) (_z : Nat) (oi : Nat) (v : Value) (own : Nat → Option Nat) (w : World) : Prop :=
  match oi with
  | 0 => v = .pointer none
  | 1 => v = .tuple #[.agg (ocells (zero32')), .iface 129 (.pointer (some (A 0)))]
  | 2 => v = .tuple #[.agg (ocells (zero32')), .iface 129 (.pointer (some (A 0)))]
  | 3 => v = .agg (ocells (zero32'))
  | 4 => v = .iface 129 (.pointer (some (A 0)))
  | 5 => AllocV own w v 6 28 32
  | 6 => StoredV own w 6 28 (ocells (zero32'))
  | 7 => v = .iface 129 (.pointer (some (A 0)))
  | _ => True
def VH6mk : Nat → Option Nat := fun j => match j with | 6 => some 5 | _ => none
theorem VH6_mono (A : Nat → Addr) (z : Nat) (oi oj : Nat) (v : Value) (own : Nat → Option Nat) (w : World) (own' : Nat → Option Nat) (w' : World) (hij : oi ≠ oj)   (h : VH6 A z oj v own w) (r : Rel VH6mk oi own w own' w') : VH6 A z oj v own' w' := by
  unfold VH6 at h ⊢
  split at h
  · exact h
  · exact h
  · exact h
  · exact h
  · exact h
  · exact h.stable r rfl hij
  · exact h.stable r hij
  · exact h
  · trivial

def VH7 (A : Nat → Addr) (z : Nat) (oi : Nat) (v : Value) (own : Nat → Option Nat) (w : World) : Prop :=
  match oi with
  | 0 => v = .pointer (some ⟨z, 0, none⟩)
  | 1 => v = .tuple #[.agg (ocells (zero32')), .iface 129 (.pointer (some (A 0)))]
  | 2 => v = .tuple #[.agg (ocells (zero32')), .iface 129 (.pointer (some (A 0)))]
  | 3 => v = .agg (ocells (zero32'))
  | 4 => v = .iface 129 (.pointer (some (A 0)))
  | 5 => AllocV own w v 6 28 32
  | 6 => StoredV own w 6 28 (ocells (zero32'))
  | 7 => v = .iface 129 (.pointer (some (A 0)))
  | _ => True
def VH7mk : Nat → Option Nat := fun j => match j with | 6 => some 5 | _ => none
theorem VH7_mono (A : Nat → Addr) (z : Nat) (oi oj : Nat) (v : Value) (own : Nat → Option Nat) (w : World) (own' : Nat → Option Nat) (w' : World) (hij : oi ≠ oj)   (h : VH7 A z oj v own w) (r : Rel VH7mk oi own w own' w') : VH7 A z oj v own' w' := by
  unfold VH7 at h ⊢
  split at h
  · exact h
  · exact h
  · exact h
  · exact h
  · exact h
  · exact h.stable r rfl hij
  · exact h.stable r hij
  · exact h
  · trivial

def VH8 (A : Nat → Addr) (_g8 _g10 z : Nat) (oi : Nat) (v : Value) (_own : Nat → Option Nat) (_w : World) : Prop :=
  match oi with
  | 0 => v = .agg (ocells (zero32'))
  | 1 => v = .agg (ocells (zero32'))
  | 2 => v = .bool false
  | 3 => v = .bool false
  | 4 => v = .agg (ocells (zero32'))
  | 5 => v = .agg (ocells (zero32'))
  | 6 => v = .bool false
  | 7 => v = .bool false
  | 8 => v = .bool false
  | 9 => v = .iface 129 (.pointer (some (A 0)))
  | 10 => v = .bool true
  | 11 => v = .bool false
  | 12 => v = .bool false
  | 13 => v = .bool false
  | 14 => v = .iface 129 (.pointer (some (A 0)))
  | 15 => v = .bool true
  | 16 => v = .bool false
  | 17 => v = .bool false
  | 18 => v = .bool false
  | 19 => v = .pointer none
  | 20 => v = .pointer none
  | 21 => v = .bool false
  | 22 => v = .bool false
  | 23 => v = .bool false
  | 24 => v = .pointer (some ⟨z, 0, none⟩)
  | 25 => v = .pointer none
  | 26 => v = .bool false
  | 27 => v = .bool false
  | _ => True
def VH8mk : Nat → Option Nat := fun _ => none
theorem VH8_mono (A : Nat → Addr) (g8 g10 z : Nat) (oi oj : Nat) (v : Value) (own : Nat → Option Nat) (w : World) (own' : Nat → Option Nat) (w' : World) (hij : oi ≠ oj)   (h : VH8 A g8 g10 z oj v own w) (_r : Rel VH8mk oi own w own' w') : VH8 A g8 g10 z oj v own' w' := by
  unfold VH8 at h ⊢
  split at h
  · exact h
  · exact h
  · exact h
  · exact h
  · exact h
  · exact h
  · exact h
  · exact h
  · exact h
  · exact h
  · exact h
  · exact h
  · exact h
  · exact h
  · exact h
  · exact h
  · exact h
  · exact h
  · exact h
  · exact h
  · exact h
  · exact h
  · exact h
  · exact h
  · exact h
  · exact h
  · exact h
  · exact h
  · trivial

def VH10 (_A : Nat → Addr) (z : Nat) (oi : Nat) (v : Value) (_own : Nat → Option Nat) (_w : World) : Prop :=
  match oi with
  | 0 => v = .pointer none
  | 1 => v = .agg #[.int .u64 0, .int .u64 0]
  | 2 => v = .agg #[.int .u64 0, .int .u64 0]
  | 3 => v = .bool true
  | 4 => v = .bool true
  | 5 => v = .pointer (some ⟨z, 0, none⟩)
  | 6 => v = .agg #[.int .u64 0, .int .u64 0]
  | 7 => v = .agg #[.int .u64 0, .int .u64 0]
  | 8 => v = .bool true
  | 9 => v = .bool true
  | 10 => v = .bool true
  | 11 => v = .pointer none
  | 12 => v = .slice none 0 0
  | 13 => v = .int .i64 0
  | 14 => v = .pointer (some ⟨z, 0, none⟩)
  | 15 => v = .slice none 0 0
  | 16 => v = .int .i64 0
  | 17 => v = .int .i64 0
  | 18 => v = .bool true
  | 19 => v = .bool true
  | 20 => v = .bool true
  | 21 => v = .bool true
  | 22 => v = .bool true
  | 23 => v = .bool true
  | _ => True
def VH10mk : Nat → Option Nat := fun _ => none
theorem VH10_mono (A : Nat → Addr) (z : Nat) (oi oj : Nat) (v : Value) (own : Nat → Option Nat) (w : World) (own' : Nat → Option Nat) (w' : World) (hij : oi ≠ oj)   (h : VH10 A z oj v own w) (_r : Rel VH10mk oi own w own' w') : VH10 A z oj v own' w' := by
  unfold VH10 at h ⊢
  split at h
  · exact h
  · exact h
  · exact h
  · exact h
  · exact h
  · exact h
  · exact h
  · exact h
  · exact h
  · exact h
  · exact h
  · exact h
  · exact h
  · exact h
  · exact h
  · exact h
  · exact h
  · exact h
  · exact h
  · exact h
  · exact h
  · exact h
  · exact h
  · exact h
  · trivial

set_option maxHeartbeats 4000000 in
theorem cnone_any (A : Nat → Addr) (w : World) (n : Nat) (p : List UInt8) (hp : p.length = 32) (h : Hs A w) : Calls Tryd.prog 5 #[.int .u64 (n : Int), hv p] w fun e w' => e = .returned (.bool true) ∧ Below w.heap.size w w' := by
  have kb := er_al (Below.refl w.heap.size w) (.cells (ocells p) 28)
  have xN := heap_alloc_new w (.cells (ocells p) 28)
  have hE0 := h.below kb
  unfold hv
  go_enter Tryd.func5, Tryd.ntmps5
  go_upto_region 1 with (fail)
  change Code.wp _ _ _ _ (w.alloc (.cells (ocells p) 28))
  generalize w.alloc (.cells (ocells p) 28) = W0 at kb xN hE0 ⊢
  obtain ⟨N, hN⟩ : ∃ N, N = w.heap.size := ⟨_, rfl⟩
  rw [← hN] at xN ⊢
  have KB := Bx.mk kb; have HH0 := Bx.mk hE0; have XN0 := Bx.mk xN; have PL := Bx.mk hp
  clear kb xN hE0 hp h hN
  go_upto_region 3 with (fail)
  have k4 : Below W0.heap.size W0 (W0.alloc (.cells #[.bool false, .int .u64 0, .int .u64 0, .slice none 0 0] 59)) := er_al (Below.refl _ _) _
  have p4 := heap_alloc_new W0 (.cells #[.bool false, .int .u64 0, .int .u64 0, .slice none 0 0] 59)
  have kw4 := KB.out.trans (k4.mono KB.out.size)
  have hh4 := HH0.out.below k4
  have xn4 := (k4.block _ (Array.getElem?_eq_some_iff.1 XN0.out).1).trans XN0.out
  generalize W0.alloc (.cells #[.bool false, .int .u64 0, .int .u64 0, .slice none 0 0] 59) = W1 at k4 p4 kw4 hh4 xn4 ⊢
  generalize W0.heap.size = z at k4 p4 ⊢
  have P4 := Bx.mk p4; have KW := Bx.mk kw4; have HH1 := Bx.mk hh4; have XN1 := Bx.mk xn4
  clear k4 p4 kw4 hh4 xn4 XN0 HH0 KB
  go_wp2_with fail
  refine (rnew_any W1 n).mono ?_
  rintro e W ⟨r, rfl, hb1, k1⟩
  have B0 := Bx.mk hb1
  have K := Bx.mk (KW.out.trans (k1.mono KW.out.size))
  have HH := Bx.mk (HH1.out.below k1)
  have XN := Bx.mk ((k1.block _ (Array.getElem?_eq_some_iff.1 XN1.out).1).trans XN1.out)
  have PZ := Bx.mk ((k1.block _ (Array.getElem?_eq_some_iff.1 P4.out).1).trans P4.out)
  clear hb1 k1 KW HH1 XN1 P4
  have DN : Bx (∀ u, DeadR u (.pointer none)) := ⟨fun u => .inl rfl⟩
  have DZ : Bx (∀ u, Below W.heap.size W u → DeadR u (.pointer (some ⟨z, 0, none⟩))) := ⟨fun u hu => DeadR.below (.inr ⟨z, rfl, PZ.out⟩) hu⟩
  have HE : Bx (∀ u, Below W.heap.size W u → Errs u A) := ⟨fun u hu => (HH.out.below hu).err⟩
  have RB : Bx (∀ u, Below W.heap.size W u → RaP W1.heap.size u r n n [] (.slice none 0 0)) := ⟨fun u hu => B0.out.below hu⟩
  clear B0 PZ
  go_upto_region 4 with (fail)
  refine wp_region_seq8 (n := 121) VH4mk (fun _ => none) (VH4 A N r z p) (by kernel_rfl) rfl (fun _ _ => rfl) (fun j i hj _ => by cases hj) ?_ ?_ ?_
  · exact fun oi oj v own w own' w' hij h r1 => VH4_mono A N r z p oi oj v own w own' w' (by omega)  h r1
  · intro oi o hi f u own hsame hsn hfr hlate hkeep8 hdep
    have hkeep := hkeep8 _ (Nat.le_refl _)
    have hb6 := hsn.below (B := W.heap.size) (fun _ _ => rfl) (Nat.le_refl _)
    match oi, hi with
    | 0, hi =>
      cases (show some _ = some o from hi)
      have e7 : f.tmps.getD 7 undef = .pointer (some ⟨r, 0, none⟩) := hlate 7 (earlyS (by kernel_rfl))
      clear hdep hsame hi hlate hfr hkeep
      exact .inl ⟨wanted_none rfl, showsO_move hsn rfl _ rfl e7⟩
    | 1, hi =>
      cases (show some _ = some o from hi)
      have e16 : (f.tmps.getD 16 undef) = .pointer (some ⟨r, 0, none⟩) := depS (V := (VH4 A N r z p)) hdep 0 16 (by decide) (by kernel_rfl)
      clear hdep hsame hi hlate hfr hkeep
      exact .inl ⟨wanted_none rfl, showsO_pure hsn rfl (.bool false) (by simp only [execOp, Act.eval]; go_simp) rfl⟩
    | 2, hi =>
      cases (show some _ = some o from hi)
      have e17 : (f.tmps.getD 17 undef) = .bool false := depS (V := (VH4 A N r z p)) hdep 1 17 (by decide) (by kernel_rfl)
      clear hdep hsame hi hlate hfr hkeep
      exact .inl ⟨wanted_none rfl, showsO_move hsn rfl _ rfl e17⟩
    | 3, hi =>
      cases (show some _ = some o from hi)
      have e5 : f.tmps.getD 5 undef = .pointer none := hlate 5 (earlyS (by kernel_rfl))
      have eg : f.tmps.getD 18 undef = .bool false := depS (V := (VH4 A N r z p)) hdep 2 18 (by decide) (by kernel_rfl)
      clear hdep hsame hi hlate hfr hkeep
      exact .inl ⟨wanted_of 2 rfl eg (by kernel_rfl), showsO_move hsn rfl _ rfl e5⟩
    | 4, hi =>
      cases (show some _ = some o from hi)
      have e3 : f.tmps.getD 3 undef = .pointer (some ⟨N, 0, none⟩) := hlate 3 (earlyS (by kernel_rfl))
      have eg : f.tmps.getD 18 undef = .bool false := depS (V := (VH4 A N r z p)) hdep 2 18 (by decide) (by kernel_rfl)
      clear hdep hsame hi hlate hfr hkeep
      exact .inl ⟨wanted_of 2 rfl eg (by kernel_rfl), showsO_row hsn rfl 28 (.tmp 3) rfl N e3 (ocells (p)) ((hb6.block _ (Array.getElem?_eq_some_iff.1 XN.out).1).trans XN.out) underH rfl (hszL PL.out) rfl⟩
    | 5, hi =>
      cases (show some _ = some o from hi)
      have e19 : (f.tmps.getD 19 undef) = .pointer none := depS (V := (VH4 A N r z p)) hdep 3 19 (by decide) (by kernel_rfl)
      have e20 : (f.tmps.getD 20 undef) = .agg (ocells (p)) := depS (V := (VH4 A N r z p)) hdep 4 20 (by decide) (by kernel_rfl)
      have eg : f.tmps.getD 18 undef = .bool false := depS (V := (VH4 A N r z p)) hdep 2 18 (by decide) (by kernel_rfl)
      clear hdep hsame hi hlate hfr hkeep
      have c := rapp_dead A u _ (DN.out u) p (HE.out u hb6)
      rw [hv_agg] at c
      exact .inl ⟨wanted_of 2 rfl eg (by kernel_rfl), showsO_call1 hsn rfl 11 #[.pointer none, .agg (ocells (p))] (by simp only [execOp, Act.eval]; go_simp) (c) (fun _ => rfl)⟩
    | 6, hi =>
      cases (show some _ = some o from hi)
      have e21 : (f.tmps.getD 21 undef) = .iface 129 (.pointer (some (A 0))) := depS (V := (VH4 A N r z p)) hdep 5 21 (by decide) (by kernel_rfl)
      have eg : f.tmps.getD 18 undef = .bool false := depS (V := (VH4 A N r z p)) hdep 2 18 (by decide) (by kernel_rfl)
      clear hdep hsame hi hlate hfr hkeep
      have c := isE_any (HE.out u hb6) (ErrV.plain 0 (by decide)) 1
      exact .inl ⟨wanted_of 2 rfl eg (by kernel_rfl), showsO_call1 hsn rfl 22 #[.iface 129 (.pointer (some (A 0))), .int .i64 1] (by simp only [execOp, Act.eval]; go_simp) (c) (fun _ => rfl)⟩
    | 7, hi =>
      cases (show some _ = some o from hi)
      have e22 : (f.tmps.getD 22 undef) = .bool true := depS (V := (VH4 A N r z p)) hdep 6 22 (by decide) (by kernel_rfl)
      have eg : f.tmps.getD 18 undef = .bool false := depS (V := (VH4 A N r z p)) hdep 2 18 (by decide) (by kernel_rfl)
      clear hdep hsame hi hlate hfr hkeep
      exact .inl ⟨wanted_of 2 rfl eg (by kernel_rfl), showsO_pure hsn rfl (.bool false) (by simp only [execOp, Act.eval]; go_simp) rfl⟩
    | 8, hi =>
      cases (show some _ = some o from hi)
      have e18 : (f.tmps.getD 18 undef) = .bool false := depS (V := (VH4 A N r z p)) hdep 2 18 (by decide) (by kernel_rfl)
      have e23 : (f.tmps.getD 23 undef) = .bool false := depS (V := (VH4 A N r z p)) hdep 7 23 (by decide) (by kernel_rfl)
      clear hdep hsame hi hlate hfr hkeep
      exact .inl ⟨wanted_none rfl, showsO_pure hsn rfl (.bool false) (by simp only [execOp, Act.eval]; go_simp) rfl⟩
    | 9, hi =>
      cases (show some _ = some o from hi)
      have e24 : (f.tmps.getD 24 undef) = .bool false := depS (V := (VH4 A N r z p)) hdep 8 24 (by decide) (by kernel_rfl)
      clear hdep hsame hi hlate hfr hkeep
      exact .inl ⟨wanted_none rfl, showsO_move hsn rfl _ rfl e24⟩
    | 10, hi =>
      cases (show some _ = some o from hi)
      have e6 : f.tmps.getD 6 undef = .pointer (some ⟨z, 0, none⟩) := hlate 6 (earlyS (by kernel_rfl))
      have eg : f.tmps.getD 25 undef = .bool false := depS (V := (VH4 A N r z p)) hdep 9 25 (by decide) (by kernel_rfl)
      clear hdep hsame hi hlate hfr hkeep
      exact .inl ⟨wanted_of 9 rfl eg (by kernel_rfl), showsO_move hsn rfl _ rfl e6⟩
    | 11, hi =>
      cases (show some _ = some o from hi)
      have e3 : f.tmps.getD 3 undef = .pointer (some ⟨N, 0, none⟩) := hlate 3 (earlyS (by kernel_rfl))
      have eg : f.tmps.getD 25 undef = .bool false := depS (V := (VH4 A N r z p)) hdep 9 25 (by decide) (by kernel_rfl)
      clear hdep hsame hi hlate hfr hkeep
      exact .inl ⟨wanted_of 9 rfl eg (by kernel_rfl), showsO_row hsn rfl 28 (.tmp 3) rfl N e3 (ocells (p)) ((hb6.block _ (Array.getElem?_eq_some_iff.1 XN.out).1).trans XN.out) underH rfl (hszL PL.out) rfl⟩
    | 12, hi =>
      cases (show some _ = some o from hi)
      have e26 : (f.tmps.getD 26 undef) = .pointer (some ⟨z, 0, none⟩) := depS (V := (VH4 A N r z p)) hdep 10 26 (by decide) (by kernel_rfl)
      have e27 : (f.tmps.getD 27 undef) = .agg (ocells (p)) := depS (V := (VH4 A N r z p)) hdep 11 27 (by decide) (by kernel_rfl)
      have eg : f.tmps.getD 25 undef = .bool false := depS (V := (VH4 A N r z p)) hdep 9 25 (by decide) (by kernel_rfl)
      clear hdep hsame hi hlate hfr hkeep
      have c := rapp_dead A u _ (DZ.out u hb6) p (HE.out u hb6)
      rw [hv_agg] at c
      exact .inl ⟨wanted_of 9 rfl eg (by kernel_rfl), showsO_call1 hsn rfl 11 #[.pointer (some ⟨z, 0, none⟩), .agg (ocells (p))] (by simp only [execOp, Act.eval]; go_simp) (c) (fun _ => rfl)⟩
    | 13, hi =>
      cases (show some _ = some o from hi)
      have e28 : (f.tmps.getD 28 undef) = .iface 129 (.pointer (some (A 0))) := depS (V := (VH4 A N r z p)) hdep 12 28 (by decide) (by kernel_rfl)
      have eg : f.tmps.getD 25 undef = .bool false := depS (V := (VH4 A N r z p)) hdep 9 25 (by decide) (by kernel_rfl)
      clear hdep hsame hi hlate hfr hkeep
      have c := isE_any (HE.out u hb6) (ErrV.plain 0 (by decide)) 1
      exact .inl ⟨wanted_of 9 rfl eg (by kernel_rfl), showsO_call1 hsn rfl 22 #[.iface 129 (.pointer (some (A 0))), .int .i64 1] (by simp only [execOp, Act.eval]; go_simp) (c) (fun _ => rfl)⟩
    | 14, hi =>
      cases (show some _ = some o from hi)
      have e29 : (f.tmps.getD 29 undef) = .bool true := depS (V := (VH4 A N r z p)) hdep 13 29 (by decide) (by kernel_rfl)
      have eg : f.tmps.getD 25 undef = .bool false := depS (V := (VH4 A N r z p)) hdep 9 25 (by decide) (by kernel_rfl)
      clear hdep hsame hi hlate hfr hkeep
      exact .inl ⟨wanted_of 9 rfl eg (by kernel_rfl), showsO_pure hsn rfl (.bool false) (by simp only [execOp, Act.eval]; go_simp) rfl⟩
    | 15, hi =>
      cases (show some _ = some o from hi)
      have e25 : (f.tmps.getD 25 undef) = .bool false := depS (V := (VH4 A N r z p)) hdep 9 25 (by decide) (by kernel_rfl)
      have e30 : (f.tmps.getD 30 undef) = .bool false := depS (V := (VH4 A N r z p)) hdep 14 30 (by decide) (by kernel_rfl)
      clear hdep hsame hi hlate hfr hkeep
      exact .inl ⟨wanted_none rfl, showsO_pure hsn rfl (.bool false) (by simp only [execOp, Act.eval]; go_simp) rfl⟩
    | 16, hi =>
      cases (show some _ = some o from hi)
      have e31 : (f.tmps.getD 31 undef) = .bool false := depS (V := (VH4 A N r z p)) hdep 15 31 (by decide) (by kernel_rfl)
      clear hdep hsame hi hlate hfr hkeep
      exact .inl ⟨wanted_none rfl, showsO_move hsn rfl _ rfl e31⟩
    | 17, hi =>
      cases (show some _ = some o from hi)
      have e5 : f.tmps.getD 5 undef = .pointer none := hlate 5 (earlyS (by kernel_rfl))
      have eg : f.tmps.getD 32 undef = .bool false := depS (V := (VH4 A N r z p)) hdep 16 32 (by decide) (by kernel_rfl)
      clear hdep hsame hi hlate hfr hkeep
      exact .inl ⟨wanted_of 16 rfl eg (by kernel_rfl), showsO_move hsn rfl _ rfl e5⟩
    | 18, hi =>
      cases (show some _ = some o from hi)
      have e7 : f.tmps.getD 7 undef = .pointer (some ⟨r, 0, none⟩) := hlate 7 (earlyS (by kernel_rfl))
      have eg : f.tmps.getD 32 undef = .bool false := depS (V := (VH4 A N r z p)) hdep 16 32 (by decide) (by kernel_rfl)
      clear hdep hsame hi hlate hfr hkeep
      exact .inl ⟨wanted_of 16 rfl eg (by kernel_rfl), showsO_move hsn rfl _ rfl e7⟩
    | 19, hi =>
      cases (show some _ = some o from hi)
      have e33 : (f.tmps.getD 33 undef) = .pointer none := depS (V := (VH4 A N r z p)) hdep 17 33 (by decide) (by kernel_rfl)
      have e34 : (f.tmps.getD 34 undef) = .pointer (some ⟨r, 0, none⟩) := depS (V := (VH4 A N r z p)) hdep 18 34 (by decide) (by kernel_rfl)
      have eg : f.tmps.getD 32 undef = .bool false := depS (V := (VH4 A N r z p)) hdep 16 32 (by decide) (by kernel_rfl)
      clear hdep hsame hi hlate hfr hkeep
      have c := rjoin_dead1 A u _ (.pointer (some ⟨r, 0, none⟩)) (DN.out u) (HE.out u hb6)
      exact .inl ⟨wanted_of 16 rfl eg (by kernel_rfl), showsO_call1 hsn rfl 18 #[.pointer none, .pointer (some ⟨r, 0, none⟩)] (by simp only [execOp, Act.eval]; go_simp) (c) (fun _ => rfl)⟩
    | 20, hi =>
      cases (show some _ = some o from hi)
      have e35 : (f.tmps.getD 35 undef) = .iface 129 (.pointer (some (A 0))) := depS (V := (VH4 A N r z p)) hdep 19 35 (by decide) (by kernel_rfl)
      have eg : f.tmps.getD 32 undef = .bool false := depS (V := (VH4 A N r z p)) hdep 16 32 (by decide) (by kernel_rfl)
      clear hdep hsame hi hlate hfr hkeep
      have c := isE_any (HE.out u hb6) (ErrV.plain 0 (by decide)) 1
      exact .inl ⟨wanted_of 16 rfl eg (by kernel_rfl), showsO_call1 hsn rfl 22 #[.iface 129 (.pointer (some (A 0))), .int .i64 1] (by simp only [execOp, Act.eval]; go_simp) (c) (fun _ => rfl)⟩
    | 21, hi =>
      cases (show some _ = some o from hi)
      have e36 : (f.tmps.getD 36 undef) = .bool true := depS (V := (VH4 A N r z p)) hdep 20 36 (by decide) (by kernel_rfl)
      have eg : f.tmps.getD 32 undef = .bool false := depS (V := (VH4 A N r z p)) hdep 16 32 (by decide) (by kernel_rfl)
      clear hdep hsame hi hlate hfr hkeep
      exact .inl ⟨wanted_of 16 rfl eg (by kernel_rfl), showsO_pure hsn rfl (.bool false) (by simp only [execOp, Act.eval]; go_simp) rfl⟩
    | 22, hi =>
      cases (show some _ = some o from hi)
      have e32 : (f.tmps.getD 32 undef) = .bool false := depS (V := (VH4 A N r z p)) hdep 16 32 (by decide) (by kernel_rfl)
      have e37 : (f.tmps.getD 37 undef) = .bool false := depS (V := (VH4 A N r z p)) hdep 21 37 (by decide) (by kernel_rfl)
      clear hdep hsame hi hlate hfr hkeep
      exact .inl ⟨wanted_none rfl, showsO_pure hsn rfl (.bool false) (by simp only [execOp, Act.eval]; go_simp) rfl⟩
    | 23, hi =>
      cases (show some _ = some o from hi)
      have e38 : (f.tmps.getD 38 undef) = .bool false := depS (V := (VH4 A N r z p)) hdep 22 38 (by decide) (by kernel_rfl)
      clear hdep hsame hi hlate hfr hkeep
      exact .inl ⟨wanted_none rfl, showsO_move hsn rfl _ rfl e38⟩
    | 24, hi =>
      cases (show some _ = some o from hi)
      have e6 : f.tmps.getD 6 undef = .pointer (some ⟨z, 0, none⟩) := hlate 6 (earlyS (by kernel_rfl))
      have eg : f.tmps.getD 39 undef = .bool false := depS (V := (VH4 A N r z p)) hdep 23 39 (by decide) (by kernel_rfl)
      clear hdep hsame hi hlate hfr hkeep
      exact .inl ⟨wanted_of 23 rfl eg (by kernel_rfl), showsO_move hsn rfl _ rfl e6⟩
    | 25, hi =>
      cases (show some _ = some o from hi)
      have e7 : f.tmps.getD 7 undef = .pointer (some ⟨r, 0, none⟩) := hlate 7 (earlyS (by kernel_rfl))
      have eg : f.tmps.getD 39 undef = .bool false := depS (V := (VH4 A N r z p)) hdep 23 39 (by decide) (by kernel_rfl)
      clear hdep hsame hi hlate hfr hkeep
      exact .inl ⟨wanted_of 23 rfl eg (by kernel_rfl), showsO_move hsn rfl _ rfl e7⟩
    | 26, hi =>
      cases (show some _ = some o from hi)
      have e40 : (f.tmps.getD 40 undef) = .pointer (some ⟨z, 0, none⟩) := depS (V := (VH4 A N r z p)) hdep 24 40 (by decide) (by kernel_rfl)
      have e41 : (f.tmps.getD 41 undef) = .pointer (some ⟨r, 0, none⟩) := depS (V := (VH4 A N r z p)) hdep 25 41 (by decide) (by kernel_rfl)
      have eg : f.tmps.getD 39 undef = .bool false := depS (V := (VH4 A N r z p)) hdep 23 39 (by decide) (by kernel_rfl)
      clear hdep hsame hi hlate hfr hkeep
      have c := rjoin_dead1 A u _ (.pointer (some ⟨r, 0, none⟩)) (DZ.out u hb6) (HE.out u hb6)
      exact .inl ⟨wanted_of 23 rfl eg (by kernel_rfl), showsO_call1 hsn rfl 18 #[.pointer (some ⟨z, 0, none⟩), .pointer (some ⟨r, 0, none⟩)] (by simp only [execOp, Act.eval]; go_simp) (c) (fun _ => rfl)⟩
    | 27, hi =>
      cases (show some _ = some o from hi)
      have e42 : (f.tmps.getD 42 undef) = .iface 129 (.pointer (some (A 0))) := depS (V := (VH4 A N r z p)) hdep 26 42 (by decide) (by kernel_rfl)
      have eg : f.tmps.getD 39 undef = .bool false := depS (V := (VH4 A N r z p)) hdep 23 39 (by decide) (by kernel_rfl)
      clear hdep hsame hi hlate hfr hkeep
      have c := isE_any (HE.out u hb6) (ErrV.plain 0 (by decide)) 1
      exact .inl ⟨wanted_of 23 rfl eg (by kernel_rfl), showsO_call1 hsn rfl 22 #[.iface 129 (.pointer (some (A 0))), .int .i64 1] (by simp only [execOp, Act.eval]; go_simp) (c) (fun _ => rfl)⟩
    | 28, hi =>
      cases (show some _ = some o from hi)
      have e43 : (f.tmps.getD 43 undef) = .bool true := depS (V := (VH4 A N r z p)) hdep 27 43 (by decide) (by kernel_rfl)
      have eg : f.tmps.getD 39 undef = .bool false := depS (V := (VH4 A N r z p)) hdep 23 39 (by decide) (by kernel_rfl)
      clear hdep hsame hi hlate hfr hkeep
      exact .inl ⟨wanted_of 23 rfl eg (by kernel_rfl), showsO_pure hsn rfl (.bool false) (by simp only [execOp, Act.eval]; go_simp) rfl⟩
    | 29, hi =>
      cases (show some _ = some o from hi)
      have e39 : (f.tmps.getD 39 undef) = .bool false := depS (V := (VH4 A N r z p)) hdep 23 39 (by decide) (by kernel_rfl)
      have e44 : (f.tmps.getD 44 undef) = .bool false := depS (V := (VH4 A N r z p)) hdep 28 44 (by decide) (by kernel_rfl)
      clear hdep hsame hi hlate hfr hkeep
      exact .inl ⟨wanted_none rfl, showsO_pure hsn rfl (.bool false) (by simp only [execOp, Act.eval]; go_simp) rfl⟩
    | 30, hi =>
      cases (show some _ = some o from hi)
      have e45 : (f.tmps.getD 45 undef) = .bool false := depS (V := (VH4 A N r z p)) hdep 29 45 (by decide) (by kernel_rfl)
      clear hdep hsame hi hlate hfr hkeep
      exact .inl ⟨wanted_none rfl, showsO_move hsn rfl _ rfl e45⟩
    | 31, hi =>
      cases (show some _ = some o from hi)
      have e7 : f.tmps.getD 7 undef = .pointer (some ⟨r, 0, none⟩) := hlate 7 (earlyS (by kernel_rfl))
      have eg : f.tmps.getD 46 undef = .bool false := depS (V := (VH4 A N r z p)) hdep 30 46 (by decide) (by kernel_rfl)
      clear hdep hsame hi hlate hfr hkeep
      exact .inl ⟨wanted_of 30 rfl eg (by kernel_rfl), showsO_move hsn rfl _ rfl e7⟩
    | 32, hi =>
      cases (show some _ = some o from hi)
      have e5 : f.tmps.getD 5 undef = .pointer none := hlate 5 (earlyS (by kernel_rfl))
      have eg : f.tmps.getD 46 undef = .bool false := depS (V := (VH4 A N r z p)) hdep 30 46 (by decide) (by kernel_rfl)
      clear hdep hsame hi hlate hfr hkeep
      exact .inl ⟨wanted_of 30 rfl eg (by kernel_rfl), showsO_move hsn rfl _ rfl e5⟩
    | 33, hi =>
      cases (show some _ = some o from hi)
      have e47 : (f.tmps.getD 47 undef) = .pointer (some ⟨r, 0, none⟩) := depS (V := (VH4 A N r z p)) hdep 31 47 (by decide) (by kernel_rfl)
      have e48 : (f.tmps.getD 48 undef) = .pointer none := depS (V := (VH4 A N r z p)) hdep 32 48 (by decide) (by kernel_rfl)
      have eg : f.tmps.getD 46 undef = .bool false := depS (V := (VH4 A N r z p)) hdep 30 46 (by decide) (by kernel_rfl)
      clear hdep hsame hi hlate hfr hkeep
      have c := rjoin_dead2 A _ u r n n [] _ _ (RB.out u hb6) (DN.out u) (HE.out u hb6)
      exact .inl ⟨wanted_of 30 rfl eg (by kernel_rfl), showsO_call1 hsn rfl 18 #[.pointer (some ⟨r, 0, none⟩), .pointer none] (by simp only [execOp, Act.eval]; go_simp) (c) (fun _ => rfl)⟩
    | 34, hi =>
      cases (show some _ = some o from hi)
      have e49 : (f.tmps.getD 49 undef) = .iface 129 (.pointer (some (A 0))) := depS (V := (VH4 A N r z p)) hdep 33 49 (by decide) (by kernel_rfl)
      have eg : f.tmps.getD 46 undef = .bool false := depS (V := (VH4 A N r z p)) hdep 30 46 (by decide) (by kernel_rfl)
      clear hdep hsame hi hlate hfr hkeep
      have c := isE_any (HE.out u hb6) (ErrV.plain 0 (by decide)) 1
      exact .inl ⟨wanted_of 30 rfl eg (by kernel_rfl), showsO_call1 hsn rfl 22 #[.iface 129 (.pointer (some (A 0))), .int .i64 1] (by simp only [execOp, Act.eval]; go_simp) (c) (fun _ => rfl)⟩
    | 35, hi =>
      cases (show some _ = some o from hi)
      have e50 : (f.tmps.getD 50 undef) = .bool true := depS (V := (VH4 A N r z p)) hdep 34 50 (by decide) (by kernel_rfl)
      have eg : f.tmps.getD 46 undef = .bool false := depS (V := (VH4 A N r z p)) hdep 30 46 (by decide) (by kernel_rfl)
      clear hdep hsame hi hlate hfr hkeep
      exact .inl ⟨wanted_of 30 rfl eg (by kernel_rfl), showsO_pure hsn rfl (.bool false) (by simp only [execOp, Act.eval]; go_simp) rfl⟩
    | 36, hi =>
      cases (show some _ = some o from hi)
      have e46 : (f.tmps.getD 46 undef) = .bool false := depS (V := (VH4 A N r z p)) hdep 30 46 (by decide) (by kernel_rfl)
      have e51 : (f.tmps.getD 51 undef) = .bool false := depS (V := (VH4 A N r z p)) hdep 35 51 (by decide) (by kernel_rfl)
      clear hdep hsame hi hlate hfr hkeep
      exact .inl ⟨wanted_none rfl, showsO_pure hsn rfl (.bool false) (by simp only [execOp, Act.eval]; go_simp) rfl⟩
    | 37, hi =>
      cases (show some _ = some o from hi)
      have e52 : (f.tmps.getD 52 undef) = .bool false := depS (V := (VH4 A N r z p)) hdep 36 52 (by decide) (by kernel_rfl)
      clear hdep hsame hi hlate hfr hkeep
      exact .inl ⟨wanted_none rfl, showsO_move hsn rfl _ rfl e52⟩
    | 38, hi =>
      cases (show some _ = some o from hi)
      have e7 : f.tmps.getD 7 undef = .pointer (some ⟨r, 0, none⟩) := hlate 7 (earlyS (by kernel_rfl))
      have eg : f.tmps.getD 53 undef = .bool false := depS (V := (VH4 A N r z p)) hdep 37 53 (by decide) (by kernel_rfl)
      clear hdep hsame hi hlate hfr hkeep
      exact .inl ⟨wanted_of 37 rfl eg (by kernel_rfl), showsO_move hsn rfl _ rfl e7⟩
    | 39, hi =>
      cases (show some _ = some o from hi)
      have e6 : f.tmps.getD 6 undef = .pointer (some ⟨z, 0, none⟩) := hlate 6 (earlyS (by kernel_rfl))
      have eg : f.tmps.getD 53 undef = .bool false := depS (V := (VH4 A N r z p)) hdep 37 53 (by decide) (by kernel_rfl)
      clear hdep hsame hi hlate hfr hkeep
      exact .inl ⟨wanted_of 37 rfl eg (by kernel_rfl), showsO_move hsn rfl _ rfl e6⟩
    | 40, hi =>
      cases (show some _ = some o from hi)
      have e54 : (f.tmps.getD 54 undef) = .pointer (some ⟨r, 0, none⟩) := depS (V := (VH4 A N r z p)) hdep 38 54 (by decide) (by kernel_rfl)
      have e55 : (f.tmps.getD 55 undef) = .pointer (some ⟨z, 0, none⟩) := depS (V := (VH4 A N r z p)) hdep 39 55 (by decide) (by kernel_rfl)
      have eg : f.tmps.getD 53 undef = .bool false := depS (V := (VH4 A N r z p)) hdep 37 53 (by decide) (by kernel_rfl)
      clear hdep hsame hi hlate hfr hkeep
      have c := rjoin_dead2 A _ u r n n [] _ _ (RB.out u hb6) (DZ.out u hb6) (HE.out u hb6)
      exact .inl ⟨wanted_of 37 rfl eg (by kernel_rfl), showsO_call1 hsn rfl 18 #[.pointer (some ⟨r, 0, none⟩), .pointer (some ⟨z, 0, none⟩)] (by simp only [execOp, Act.eval]; go_simp) (c) (fun _ => rfl)⟩
    | 41, hi =>
      cases (show some _ = some o from hi)
      have e56 : (f.tmps.getD 56 undef) = .iface 129 (.pointer (some (A 0))) := depS (V := (VH4 A N r z p)) hdep 40 56 (by decide) (by kernel_rfl)
      have eg : f.tmps.getD 53 undef = .bool false := depS (V := (VH4 A N r z p)) hdep 37 53 (by decide) (by kernel_rfl)
      clear hdep hsame hi hlate hfr hkeep
      have c := isE_any (HE.out u hb6) (ErrV.plain 0 (by decide)) 1
      exact .inl ⟨wanted_of 37 rfl eg (by kernel_rfl), showsO_call1 hsn rfl 22 #[.iface 129 (.pointer (some (A 0))), .int .i64 1] (by simp only [execOp, Act.eval]; go_simp) (c) (fun _ => rfl)⟩
    | 42, hi =>
      cases (show some _ = some o from hi)
      have e57 : (f.tmps.getD 57 undef) = .bool true := depS (V := (VH4 A N r z p)) hdep 41 57 (by decide) (by kernel_rfl)
      have eg : f.tmps.getD 53 undef = .bool false := depS (V := (VH4 A N r z p)) hdep 37 53 (by decide) (by kernel_rfl)
      clear hdep hsame hi hlate hfr hkeep
      exact .inl ⟨wanted_of 37 rfl eg (by kernel_rfl), showsO_pure hsn rfl (.bool false) (by simp only [execOp, Act.eval]; go_simp) rfl⟩
    | 43, hi =>
      cases (show some _ = some o from hi)
      have e53 : (f.tmps.getD 53 undef) = .bool false := depS (V := (VH4 A N r z p)) hdep 37 53 (by decide) (by kernel_rfl)
      have e58 : (f.tmps.getD 58 undef) = .bool false := depS (V := (VH4 A N r z p)) hdep 42 58 (by decide) (by kernel_rfl)
      clear hdep hsame hi hlate hfr hkeep
      exact .inl ⟨wanted_none rfl, showsO_pure hsn rfl (.bool false) (by simp only [execOp, Act.eval]; go_simp) rfl⟩
    | n + 44, hi => exact absurd hi (by simp)
  intro f u4 own hsame hsn hall
  have q16 : f.tmps.getD 16 undef = .pointer (some ⟨r, 0, none⟩) := finO (V := (VH4 A N r z p)) hall 0 16 rfl
  have q17 : f.tmps.getD 17 undef = .bool false := finO (V := (VH4 A N r z p)) hall 1 17 rfl
  have q18 : f.tmps.getD 18 undef = .bool false := finO (V := (VH4 A N r z p)) hall 2 18 rfl
  have q19 : f.tmps.getD 19 undef = .pointer none := finO (V := (VH4 A N r z p)) hall 3 19 rfl
  have q20 : f.tmps.getD 20 undef = .agg (ocells (p)) := finO (V := (VH4 A N r z p)) hall 4 20 rfl
  have q21 : f.tmps.getD 21 undef = .iface 129 (.pointer (some (A 0))) := finO (V := (VH4 A N r z p)) hall 5 21 rfl
  have q22 : f.tmps.getD 22 undef = .bool true := finO (V := (VH4 A N r z p)) hall 6 22 rfl
  have q23 : f.tmps.getD 23 undef = .bool false := finO (V := (VH4 A N r z p)) hall 7 23 rfl
  have q24 : f.tmps.getD 24 undef = .bool false := finO (V := (VH4 A N r z p)) hall 8 24 rfl
  have q25 : f.tmps.getD 25 undef = .bool false := finO (V := (VH4 A N r z p)) hall 9 25 rfl
  have q26 : f.tmps.getD 26 undef = .pointer (some ⟨z, 0, none⟩) := finO (V := (VH4 A N r z p)) hall 10 26 rfl
  have q27 : f.tmps.getD 27 undef = .agg (ocells (p)) := finO (V := (VH4 A N r z p)) hall 11 27 rfl
  have q28 : f.tmps.getD 28 undef = .iface 129 (.pointer (some (A 0))) := finO (V := (VH4 A N r z p)) hall 12 28 rfl
  have q29 : f.tmps.getD 29 undef = .bool true := finO (V := (VH4 A N r z p)) hall 13 29 rfl
  have q30 : f.tmps.getD 30 undef = .bool false := finO (V := (VH4 A N r z p)) hall 14 30 rfl
  have q31 : f.tmps.getD 31 undef = .bool false := finO (V := (VH4 A N r z p)) hall 15 31 rfl
  have q32 : f.tmps.getD 32 undef = .bool false := finO (V := (VH4 A N r z p)) hall 16 32 rfl
  have q33 : f.tmps.getD 33 undef = .pointer none := finO (V := (VH4 A N r z p)) hall 17 33 rfl
  have q34 : f.tmps.getD 34 undef = .pointer (some ⟨r, 0, none⟩) := finO (V := (VH4 A N r z p)) hall 18 34 rfl
  have q35 : f.tmps.getD 35 undef = .iface 129 (.pointer (some (A 0))) := finO (V := (VH4 A N r z p)) hall 19 35 rfl
  have q36 : f.tmps.getD 36 undef = .bool true := finO (V := (VH4 A N r z p)) hall 20 36 rfl
  have q37 : f.tmps.getD 37 undef = .bool false := finO (V := (VH4 A N r z p)) hall 21 37 rfl
  have q38 : f.tmps.getD 38 undef = .bool false := finO (V := (VH4 A N r z p)) hall 22 38 rfl
  have q39 : f.tmps.getD 39 undef = .bool false := finO (V := (VH4 A N r z p)) hall 23 39 rfl
  have q40 : f.tmps.getD 40 undef = .pointer (some ⟨z, 0, none⟩) := finO (V := (VH4 A N r z p)) hall 24 40 rfl
  have q41 : f.tmps.getD 41 undef = .pointer (some ⟨r, 0, none⟩) := finO (V := (VH4 A N r z p)) hall 25 41 rfl
  have q42 : f.tmps.getD 42 undef = .iface 129 (.pointer (some (A 0))) := finO (V := (VH4 A N r z p)) hall 26 42 rfl
  have q43 : f.tmps.getD 43 undef = .bool true := finO (V := (VH4 A N r z p)) hall 27 43 rfl
  have q44 : f.tmps.getD 44 undef = .bool false := finO (V := (VH4 A N r z p)) hall 28 44 rfl
  have q45 : f.tmps.getD 45 undef = .bool false := finO (V := (VH4 A N r z p)) hall 29 45 rfl
  have q46 : f.tmps.getD 46 undef = .bool false := finO (V := (VH4 A N r z p)) hall 30 46 rfl
  have q47 : f.tmps.getD 47 undef = .pointer (some ⟨r, 0, none⟩) := finO (V := (VH4 A N r z p)) hall 31 47 rfl
  have q48 : f.tmps.getD 48 undef = .pointer none := finO (V := (VH4 A N r z p)) hall 32 48 rfl
  have q49 : f.tmps.getD 49 undef = .iface 129 (.pointer (some (A 0))) := finO (V := (VH4 A N r z p)) hall 33 49 rfl
  have q50 : f.tmps.getD 50 undef = .bool true := finO (V := (VH4 A N r z p)) hall 34 50 rfl
  have q51 : f.tmps.getD 51 undef = .bool false := finO (V := (VH4 A N r z p)) hall 35 51 rfl
  have q52 : f.tmps.getD 52 undef = .bool false := finO (V := (VH4 A N r z p)) hall 36 52 rfl
  have q53 : f.tmps.getD 53 undef = .bool false := finO (V := (VH4 A N r z p)) hall 37 53 rfl
  have q54 : f.tmps.getD 54 undef = .pointer (some ⟨r, 0, none⟩) := finO (V := (VH4 A N r z p)) hall 38 54 rfl
  have q55 : f.tmps.getD 55 undef = .pointer (some ⟨z, 0, none⟩) := finO (V := (VH4 A N r z p)) hall 39 55 rfl
  have q56 : f.tmps.getD 56 undef = .iface 129 (.pointer (some (A 0))) := finO (V := (VH4 A N r z p)) hall 40 56 rfl
  have q57 : f.tmps.getD 57 undef = .bool true := finO (V := (VH4 A N r z p)) hall 41 57 rfl
  have q58 : f.tmps.getD 58 undef = .bool false := finO (V := (VH4 A N r z p)) hall 42 58 rfl
  have q59 : f.tmps.getD 59 undef = .bool false := finO (V := (VH4 A N r z p)) hall 43 59 rfl
  obtain rfl := frame_eq hsame [(16, .pointer (some ⟨r, 0, none⟩)), (17, .bool false), (18, .bool false), (19, .pointer none), (20, .agg (ocells (p))), (21, .iface 129 (.pointer (some (A 0)))), (22, .bool true), (23, .bool false), (24, .bool false), (25, .bool false), (26, .pointer (some ⟨z, 0, none⟩)), (27, .agg (ocells (p))), (28, .iface 129 (.pointer (some (A 0)))), (29, .bool true), (30, .bool false), (31, .bool false), (32, .bool false), (33, .pointer none), (34, .pointer (some ⟨r, 0, none⟩)), (35, .iface 129 (.pointer (some (A 0)))), (36, .bool true), (37, .bool false), (38, .bool false), (39, .bool false), (40, .pointer (some ⟨z, 0, none⟩)), (41, .pointer (some ⟨r, 0, none⟩)), (42, .iface 129 (.pointer (some (A 0)))), (43, .bool true), (44, .bool false), (45, .bool false), (46, .bool false), (47, .pointer (some ⟨r, 0, none⟩)), (48, .pointer none), (49, .iface 129 (.pointer (some (A 0)))), (50, .bool true), (51, .bool false), (52, .bool false), (53, .bool false), (54, .pointer (some ⟨r, 0, none⟩)), (55, .pointer (some ⟨z, 0, none⟩)), (56, .iface 129 (.pointer (some (A 0)))), (57, .bool true), (58, .bool false), (59, .bool false)] (by kernel_rfl) ⟨q16, q17, q18, q19, q20, q21, q22, q23, q24, q25, q26, q27, q28, q29, q30, q31, q32, q33, q34, q35, q36, q37, q38, q39, q40, q41, q42, q43, q44, q45, q46, q47, q48, q49, q50, q51, q52, q53, q54, q55, q56, q57, q58, q59, trivial⟩
  clear hall hsame q16 q17 q18 q19 q20 q21 q22 q23 q24 q25 q26 q27 q28 q29 q30 q31 q32 q33 q34 q35 q36 q37 q38 q39 q40 q41 q42 q43 q44 q45 q46 q47 q48 q49 q50 q51 q52 q53 q54 q55 q56 q57 q58 q59
  simp only [List.foldl, List.setIfInBounds_toArray, List.set_cons_succ, List.set_cons_zero]
  have hb := hsn.below (B := W.heap.size) (fun _ _ => rfl) (Nat.le_refl _)
  have B4 := Bx.mk hb; clear hb hsn
  go_upto_region 6 with (fail)
  refine wp_region_seq8 (n := 121) VH6mk (fun _ => none) (VH6 A z) (by kernel_rfl) rfl (fun _ _ => rfl) (fun _ _ _ _ h => by cases h) ?_ ?_ ?_
  · exact fun oi oj v own w own' w' hij h r => VH6_mono A z oi oj v own w own' w' (by omega)  h r
  · intro oi o hi f u own hsame hsn hfr hlate hkeep8 hdep
    have hkeep := hkeep8 _ (Nat.le_refl _)
    have hb6 := hsn.below (B := u4.heap.size) (fun _ _ => rfl) (Nat.le_refl _)
    have hbw := B4.out.trans (hb6.mono B4.out.size)
    match oi, hi with
    | 0, hi =>
      cases (show some _ = some o from hi)
      have e5 : f.tmps.getD 5 undef = .pointer none := hlate 5 (earlyS (by kernel_rfl))
      clear hdep hsame hi hlate hfr hkeep
      exact .inl ⟨wanted_none rfl, showsO_move hsn rfl _ rfl e5⟩
    | 1, hi =>
      cases (show some _ = some o from hi)
      have e61 : (f.tmps.getD 61 undef) = .pointer none := depS (V := (VH6 A z)) hdep 0 61 (by decide) (by kernel_rfl)
      clear hdep hsame hi hlate hfr hkeep
      have c := rroot_dead A u _ (DN.out u) (HE.out u hbw)
      rw [hv_agg] at c
      exact .inl ⟨wanted_none rfl, showsO_call1 hsn rfl 9 #[.pointer none] (by simp only [execOp, Act.eval]; go_simp) (c) (fun _ => rfl)⟩
    | 2, hi =>
      cases (show some _ = some o from hi)
      have e62 : (f.tmps.getD 62 undef) = .tuple #[.agg (ocells (zero32')), .iface 129 (.pointer (some (A 0)))] := depS (V := (VH6 A z)) hdep 1 62 (by decide) (by kernel_rfl)
      clear hdep hsame hi hlate hfr hkeep
      exact .inl ⟨wanted_none rfl, showsO_move hsn rfl _ rfl e62⟩
    | 3, hi =>
      cases (show some _ = some o from hi)
      have e60 : (f.tmps.getD 60 undef) = .tuple #[.agg (ocells (zero32')), .iface 129 (.pointer (some (A 0)))] := depS (V := (VH6 A z)) hdep 2 60 (by decide) (by kernel_rfl)
      clear hdep hsame hi hlate hfr hkeep
      exact .inl ⟨wanted_none rfl, showsO_pure hsn rfl (.agg (ocells (zero32'))) (by simp only [execOp, Act.eval]; go_simp) rfl⟩
    | 4, hi =>
      cases (show some _ = some o from hi)
      have e60 : (f.tmps.getD 60 undef) = .tuple #[.agg (ocells (zero32')), .iface 129 (.pointer (some (A 0)))] := depS (V := (VH6 A z)) hdep 2 60 (by decide) (by kernel_rfl)
      clear hdep hsame hi hlate hfr hkeep
      exact .inl ⟨wanted_none rfl, showsO_pure hsn rfl (.iface 129 (.pointer (some (A 0)))) (by simp only [execOp, Act.eval]; go_simp) rfl⟩
    | 5, hi =>
      cases (show some _ = some o from hi)
      clear hdep hsame hi hlate hkeep
      exact .inl ⟨wanted_none rfl, showsO_alloc hsn hfr rfl zeros32 28 6 rfl (by simp only [execOp, Act.eval]; go_simp; rfl) (fun h => h)⟩
    | 6, hi =>
      cases (show some _ = some o from hi)
      have e8 : AllocV own u (f.tmps.getD 8 undef) 6 28 32 := depS (V := (VH6 A z)) hdep 5 8 (by decide) (by kernel_rfl)
      have e63 : (f.tmps.getD 63 undef) = .agg (ocells (zero32')) := depS (V := (VH6 A z)) hdep 3 63 (by decide) (by kernel_rfl)
      clear hdep hsame hi hlate hfr hkeep
      exact .inl ⟨wanted_none rfl, showsO_store_alloc hsn rfl 28 (.tmp 8) (.tmp 63) rfl e8 (ocells (zero32')) e63 (hszL zlenC) (by rw [ocells_size, zlenC]) (ocells_one _) (fun _ h => h)⟩
    | 7, hi =>
      cases (show some _ = some o from hi)
      have e64 : (f.tmps.getD 64 undef) = .iface 129 (.pointer (some (A 0))) := depS (V := (VH6 A z)) hdep 4 64 (by decide) (by kernel_rfl)
      clear hdep hsame hi hlate hfr hkeep
      exact .inl ⟨wanted_none rfl, showsO_assign hsn rfl _ rfl e64⟩
    | n + 8, hi => exact absurd hi (by simp)
  intro f u5 own hsame hsn hall
  have q61 : f.tmps.getD 61 undef = .pointer none := finO (V := (VH6 A z)) hall 0 61 rfl
  have q62 : f.tmps.getD 62 undef = .tuple #[.agg (ocells (zero32')), .iface 129 (.pointer (some (A 0)))] := finO (V := (VH6 A z)) hall 1 62 rfl
  have q60 : f.tmps.getD 60 undef = .tuple #[.agg (ocells (zero32')), .iface 129 (.pointer (some (A 0)))] := finO (V := (VH6 A z)) hall 2 60 rfl
  have q63 : f.tmps.getD 63 undef = .agg (ocells (zero32')) := finO (V := (VH6 A z)) hall 3 63 rfl
  have q64 : f.tmps.getD 64 undef = .iface 129 (.pointer (some (A 0))) := finO (V := (VH6 A z)) hall 4 64 rfl
  obtain ⟨g8, q8, o8, m8⟩ := AllocV.stored (finO (V := (VH6 A z)) hall 5 8 rfl) (finN (V := (VH6 A z)) hall 6 rfl)
  have q9 : f.tmps.getD 9 undef = .iface 129 (.pointer (some (A 0))) := finO (V := (VH6 A z)) hall 7 9 rfl
  obtain rfl := frame_eq hsame [(61, .pointer none), (62, .tuple #[.agg (ocells (zero32')), .iface 129 (.pointer (some (A 0)))]), (60, .tuple #[.agg (ocells (zero32')), .iface 129 (.pointer (some (A 0)))]), (63, .agg (ocells (zero32'))), (64, .iface 129 (.pointer (some (A 0)))), (8, .pointer (some ⟨g8, 0, none⟩)), (9, .iface 129 (.pointer (some (A 0))))] (by kernel_rfl) ⟨q61, q62, q60, q63, q64, q8, q9, trivial⟩
  clear hall hsame q61 q62 q60 q63 q64 q8 q9
  simp only [List.foldl, List.setIfInBounds_toArray, List.set_cons_succ, List.set_cons_zero]
  have hb := hsn.below (B := u4.heap.size) (fun _ _ => rfl) (Nat.le_refl _)
  have B5 := Bx.mk (B4.out.trans (hb.mono B4.out.size))
  have M8 := Bx.mk m8
  clear hb hsn m8 o8
  go_upto_region 7 with (fail)
  refine wp_region_seq8 (n := 121) VH7mk (fun _ => none) (VH7 A z) (by kernel_rfl) rfl (fun _ _ => rfl) (fun _ _ _ _ h => by cases h) ?_ ?_ ?_
  · exact fun oi oj v own w own' w' hij h r => VH7_mono A z oi oj v own w own' w' (by omega)  h r
  · intro oi o hi f u own hsame hsn hfr hlate hkeep8 hdep
    have hkeep := hkeep8 _ (Nat.le_refl _)
    have hb6 := hsn.below (B := u5.heap.size) (fun _ _ => rfl) (Nat.le_refl _)
    have hbw := B5.out.trans (hb6.mono B5.out.size)
    match oi, hi with
    | 0, hi =>
      cases (show some _ = some o from hi)
      have e6 : f.tmps.getD 6 undef = .pointer (some ⟨z, 0, none⟩) := hlate 6 (earlyS (by kernel_rfl))
      clear hdep hsame hi hlate hfr hkeep
      exact .inl ⟨wanted_none rfl, showsO_move hsn rfl _ rfl e6⟩
    | 1, hi =>
      cases (show some _ = some o from hi)
      have e66 : (f.tmps.getD 66 undef) = .pointer (some ⟨z, 0, none⟩) := depS (V := (VH7 A z)) hdep 0 66 (by decide) (by kernel_rfl)
      clear hdep hsame hi hlate hfr hkeep
      have c := rroot_dead A u _ (DZ.out u hbw) (HE.out u hbw)
      rw [hv_agg] at c
      exact .inl ⟨wanted_none rfl, showsO_call1 hsn rfl 9 #[.pointer (some ⟨z, 0, none⟩)] (by simp only [execOp, Act.eval]; go_simp) (c) (fun _ => rfl)⟩
    | 2, hi =>
      cases (show some _ = some o from hi)
      have e67 : (f.tmps.getD 67 undef) = .tuple #[.agg (ocells (zero32')), .iface 129 (.pointer (some (A 0)))] := depS (V := (VH7 A z)) hdep 1 67 (by decide) (by kernel_rfl)
      clear hdep hsame hi hlate hfr hkeep
      exact .inl ⟨wanted_none rfl, showsO_move hsn rfl _ rfl e67⟩
    | 3, hi =>
      cases (show some _ = some o from hi)
      have e65 : (f.tmps.getD 65 undef) = .tuple #[.agg (ocells (zero32')), .iface 129 (.pointer (some (A 0)))] := depS (V := (VH7 A z)) hdep 2 65 (by decide) (by kernel_rfl)
      clear hdep hsame hi hlate hfr hkeep
      exact .inl ⟨wanted_none rfl, showsO_pure hsn rfl (.agg (ocells (zero32'))) (by simp only [execOp, Act.eval]; go_simp) rfl⟩
    | 4, hi =>
      cases (show some _ = some o from hi)
      have e65 : (f.tmps.getD 65 undef) = .tuple #[.agg (ocells (zero32')), .iface 129 (.pointer (some (A 0)))] := depS (V := (VH7 A z)) hdep 2 65 (by decide) (by kernel_rfl)
      clear hdep hsame hi hlate hfr hkeep
      exact .inl ⟨wanted_none rfl, showsO_pure hsn rfl (.iface 129 (.pointer (some (A 0)))) (by simp only [execOp, Act.eval]; go_simp) rfl⟩
    | 5, hi =>
      cases (show some _ = some o from hi)
      clear hdep hsame hi hlate hkeep
      exact .inl ⟨wanted_none rfl, showsO_alloc hsn hfr rfl zeros32 28 6 rfl (by simp only [execOp, Act.eval]; go_simp; rfl) (fun h => h)⟩
    | 6, hi =>
      cases (show some _ = some o from hi)
      have e10 : AllocV own u (f.tmps.getD 10 undef) 6 28 32 := depS (V := (VH7 A z)) hdep 5 10 (by decide) (by kernel_rfl)
      have e68 : (f.tmps.getD 68 undef) = .agg (ocells (zero32')) := depS (V := (VH7 A z)) hdep 3 68 (by decide) (by kernel_rfl)
      clear hdep hsame hi hlate hfr hkeep
      exact .inl ⟨wanted_none rfl, showsO_store_alloc hsn rfl 28 (.tmp 10) (.tmp 68) rfl e10 (ocells (zero32')) e68 (hszL zlenC) (by rw [ocells_size, zlenC]) (ocells_one _) (fun _ h => h)⟩
    | 7, hi =>
      cases (show some _ = some o from hi)
      have e69 : (f.tmps.getD 69 undef) = .iface 129 (.pointer (some (A 0))) := depS (V := (VH7 A z)) hdep 4 69 (by decide) (by kernel_rfl)
      clear hdep hsame hi hlate hfr hkeep
      exact .inl ⟨wanted_none rfl, showsO_assign hsn rfl _ rfl e69⟩
    | n + 8, hi => exact absurd hi (by simp)
  intro f u6 own hsame hsn hall
  have q66 : f.tmps.getD 66 undef = .pointer (some ⟨z, 0, none⟩) := finO (V := (VH7 A z)) hall 0 66 rfl
  have q67 : f.tmps.getD 67 undef = .tuple #[.agg (ocells (zero32')), .iface 129 (.pointer (some (A 0)))] := finO (V := (VH7 A z)) hall 1 67 rfl
  have q65 : f.tmps.getD 65 undef = .tuple #[.agg (ocells (zero32')), .iface 129 (.pointer (some (A 0)))] := finO (V := (VH7 A z)) hall 2 65 rfl
  have q68 : f.tmps.getD 68 undef = .agg (ocells (zero32')) := finO (V := (VH7 A z)) hall 3 68 rfl
  have q69 : f.tmps.getD 69 undef = .iface 129 (.pointer (some (A 0))) := finO (V := (VH7 A z)) hall 4 69 rfl
  obtain ⟨g10, q10, o10, m10⟩ := AllocV.stored (finO (V := (VH7 A z)) hall 5 10 rfl) (finN (V := (VH7 A z)) hall 6 rfl)
  have q11 : f.tmps.getD 11 undef = .iface 129 (.pointer (some (A 0))) := finO (V := (VH7 A z)) hall 7 11 rfl
  obtain rfl := frame_eq hsame [(66, .pointer (some ⟨z, 0, none⟩)), (67, .tuple #[.agg (ocells (zero32')), .iface 129 (.pointer (some (A 0)))]), (65, .tuple #[.agg (ocells (zero32')), .iface 129 (.pointer (some (A 0)))]), (68, .agg (ocells (zero32'))), (69, .iface 129 (.pointer (some (A 0)))), (10, .pointer (some ⟨g10, 0, none⟩)), (11, .iface 129 (.pointer (some (A 0))))] (by kernel_rfl) ⟨q66, q67, q65, q68, q69, q10, q11, trivial⟩
  clear hall hsame q66 q67 q65 q68 q69 q10 q11
  simp only [List.foldl, List.setIfInBounds_toArray, List.set_cons_succ, List.set_cons_zero]
  have hb := hsn.below (B := u5.heap.size) (fun _ _ => rfl) (Nat.le_refl _)
  have B6 := Bx.mk (B5.out.trans (hb.mono B5.out.size))
  have M10 := Bx.mk m10
  have M8b := Bx.mk ((hb.block _ (Array.getElem?_eq_some_iff.1 M8.out).1).trans M8.out)
  clear hb hsn m10 o10
  go_upto_region 8 with (fail)
  refine wp_region_seq8 (n := 121) VH8mk (fun _ => none) (VH8 A g8 g10 z) (by kernel_rfl) rfl (fun _ _ => rfl) (fun j i hj _ => by cases hj) ?_ ?_ ?_
  · exact fun oi oj v own w own' w' hij h r => VH8_mono A g8 g10 z oi oj v own w own' w' (by omega)  h r
  · intro oi o hi f u own hsame hsn hfr hlate hkeep8 hdep
    have hkeep := hkeep8 _ (Nat.le_refl _)
    have hb6 := hsn.below (B := u6.heap.size) (fun _ _ => rfl) (Nat.le_refl _)
    have hbw := B6.out.trans (hb6.mono B6.out.size)
    match oi, hi with
    | 0, hi =>
      cases (show some _ = some o from hi)
      have e8 : f.tmps.getD 8 undef = .pointer (some ⟨g8, 0, none⟩) := hlate 8 (earlyS (by kernel_rfl))
      clear hdep hsame hi hlate hfr hkeep
      exact .inl ⟨wanted_none rfl, showsO_row hsn rfl 28 (.tmp 8) rfl g8 e8 (ocells (zero32')) ((hb6.block _ (Array.getElem?_eq_some_iff.1 M8b.out).1).trans M8b.out) underH rfl (hszL (by decide)) rfl⟩
    | 1, hi =>
      cases (show some _ = some o from hi)
      clear hdep hsame hi hlate hfr hkeep
      exact .inl ⟨wanted_none rfl, showsO_build hsn rfl 28 #[] rfl (ocells zero32') (by simp only [List.map_toArray, List.map_nil]; exact built_zeroC) rfl⟩
    | 2, hi =>
      cases (show some _ = some o from hi)
      have e70 : (f.tmps.getD 70 undef) = .agg (ocells (zero32')) := depS (V := (VH8 A g8 g10 z)) hdep 0 70 (by decide) (by kernel_rfl)
      have e71 : (f.tmps.getD 71 undef) = .agg (ocells (zero32')) := depS (V := (VH8 A g8 g10 z)) hdep 1 71 (by decide) (by kernel_rfl)
      clear hdep hsame hi hlate hfr hkeep
      have q := fun u => hv_neq u (zero32') (zero32') (by decide) (by decide)
      simp only [hv_agg, beq_self_eq_true, Bool.not_true] at q
      exact .inl ⟨wanted_none rfl, showsO_pure hsn rfl (.bool false) (by simp only [execOp, Act.eval]; go_simp) rfl⟩
    | 3, hi =>
      cases (show some _ = some o from hi)
      have e72 : (f.tmps.getD 72 undef) = .bool false := depS (V := (VH8 A g8 g10 z)) hdep 2 72 (by decide) (by kernel_rfl)
      clear hdep hsame hi hlate hfr hkeep
      exact .inl ⟨wanted_none rfl, showsO_move hsn rfl _ rfl e72⟩
    | 4, hi =>
      cases (show some _ = some o from hi)
      have e10 : f.tmps.getD 10 undef = .pointer (some ⟨g10, 0, none⟩) := hlate 10 (earlyS (by kernel_rfl))
      have eg : f.tmps.getD 73 undef = .bool false := depS (V := (VH8 A g8 g10 z)) hdep 3 73 (by decide) (by kernel_rfl)
      clear hdep hsame hi hlate hfr hkeep
      exact .inl ⟨wanted_of 3 rfl eg (by kernel_rfl), showsO_row hsn rfl 28 (.tmp 10) rfl g10 e10 (ocells (zero32')) ((hb6.block _ (Array.getElem?_eq_some_iff.1 M10.out).1).trans M10.out) underH rfl (hszL (by decide)) rfl⟩
    | 5, hi =>
      cases (show some _ = some o from hi)
      have e8 : f.tmps.getD 8 undef = .pointer (some ⟨g8, 0, none⟩) := hlate 8 (earlyS (by kernel_rfl))
      have eg : f.tmps.getD 73 undef = .bool false := depS (V := (VH8 A g8 g10 z)) hdep 3 73 (by decide) (by kernel_rfl)
      clear hdep hsame hi hlate hfr hkeep
      exact .inl ⟨wanted_of 3 rfl eg (by kernel_rfl), showsO_row hsn rfl 28 (.tmp 8) rfl g8 e8 (ocells (zero32')) ((hb6.block _ (Array.getElem?_eq_some_iff.1 M8b.out).1).trans M8b.out) underH rfl (hszL (by decide)) rfl⟩
    | 6, hi =>
      cases (show some _ = some o from hi)
      have e74 : (f.tmps.getD 74 undef) = .agg (ocells (zero32')) := depS (V := (VH8 A g8 g10 z)) hdep 4 74 (by decide) (by kernel_rfl)
      have e75 : (f.tmps.getD 75 undef) = .agg (ocells (zero32')) := depS (V := (VH8 A g8 g10 z)) hdep 5 75 (by decide) (by kernel_rfl)
      have eg : f.tmps.getD 73 undef = .bool false := depS (V := (VH8 A g8 g10 z)) hdep 3 73 (by decide) (by kernel_rfl)
      clear hdep hsame hi hlate hfr hkeep
      have q := fun u => hv_neq u (zero32') (zero32') (by decide) (by decide)
      simp only [hv_agg, beq_self_eq_true, Bool.not_true] at q
      exact .inl ⟨wanted_of 3 rfl eg (by kernel_rfl), showsO_pure hsn rfl (.bool false) (by simp only [execOp, Act.eval]; go_simp) rfl⟩
    | 7, hi =>
      cases (show some _ = some o from hi)
      have e73 : (f.tmps.getD 73 undef) = .bool false := depS (V := (VH8 A g8 g10 z)) hdep 3 73 (by decide) (by kernel_rfl)
      have e76 : (f.tmps.getD 76 undef) = .bool false := depS (V := (VH8 A g8 g10 z)) hdep 6 76 (by decide) (by kernel_rfl)
      clear hdep hsame hi hlate hfr hkeep
      exact .inl ⟨wanted_none rfl, showsO_pure hsn rfl (.bool false) (by simp only [execOp, Act.eval]; go_simp) rfl⟩
    | 8, hi =>
      cases (show some _ = some o from hi)
      have e77 : (f.tmps.getD 77 undef) = .bool false := depS (V := (VH8 A g8 g10 z)) hdep 7 77 (by decide) (by kernel_rfl)
      clear hdep hsame hi hlate hfr hkeep
      exact .inl ⟨wanted_none rfl, showsO_move hsn rfl _ rfl e77⟩
    | 9, hi =>
      cases (show some _ = some o from hi)
      have e9 : f.tmps.getD 9 undef = .iface 129 (.pointer (some (A 0))) := hlate 9 (earlyS (by kernel_rfl))
      have eg : f.tmps.getD 78 undef = .bool false := depS (V := (VH8 A g8 g10 z)) hdep 8 78 (by decide) (by kernel_rfl)
      clear hdep hsame hi hlate hfr hkeep
      exact .inl ⟨wanted_of 8 rfl eg (by kernel_rfl), showsO_move hsn rfl _ rfl e9⟩
    | 10, hi =>
      cases (show some _ = some o from hi)
      have e79 : (f.tmps.getD 79 undef) = .iface 129 (.pointer (some (A 0))) := depS (V := (VH8 A g8 g10 z)) hdep 9 79 (by decide) (by kernel_rfl)
      have eg : f.tmps.getD 78 undef = .bool false := depS (V := (VH8 A g8 g10 z)) hdep 8 78 (by decide) (by kernel_rfl)
      clear hdep hsame hi hlate hfr hkeep
      have c := isE_any (HE.out u hbw) (ErrV.plain 0 (by decide)) 1
      exact .inl ⟨wanted_of 8 rfl eg (by kernel_rfl), showsO_call1 hsn rfl 22 #[.iface 129 (.pointer (some (A 0))), .int .i64 1] (by simp only [execOp, Act.eval]; go_simp) (c) (fun _ => rfl)⟩
    | 11, hi =>
      cases (show some _ = some o from hi)
      have e80 : (f.tmps.getD 80 undef) = .bool true := depS (V := (VH8 A g8 g10 z)) hdep 10 80 (by decide) (by kernel_rfl)
      have eg : f.tmps.getD 78 undef = .bool false := depS (V := (VH8 A g8 g10 z)) hdep 8 78 (by decide) (by kernel_rfl)
      clear hdep hsame hi hlate hfr hkeep
      exact .inl ⟨wanted_of 8 rfl eg (by kernel_rfl), showsO_pure hsn rfl (.bool false) (by simp only [execOp, Act.eval]; go_simp) rfl⟩
    | 12, hi =>
      cases (show some _ = some o from hi)
      have e78 : (f.tmps.getD 78 undef) = .bool false := depS (V := (VH8 A g8 g10 z)) hdep 8 78 (by decide) (by kernel_rfl)
      have e81 : (f.tmps.getD 81 undef) = .bool false := depS (V := (VH8 A g8 g10 z)) hdep 11 81 (by decide) (by kernel_rfl)
      clear hdep hsame hi hlate hfr hkeep
      exact .inl ⟨wanted_none rfl, showsO_pure hsn rfl (.bool false) (by simp only [execOp, Act.eval]; go_simp) rfl⟩
    | 13, hi =>
      cases (show some _ = some o from hi)
      have e82 : (f.tmps.getD 82 undef) = .bool false := depS (V := (VH8 A g8 g10 z)) hdep 12 82 (by decide) (by kernel_rfl)
      clear hdep hsame hi hlate hfr hkeep
      exact .inl ⟨wanted_none rfl, showsO_move hsn rfl _ rfl e82⟩
    | 14, hi =>
      cases (show some _ = some o from hi)
      have e11 : f.tmps.getD 11 undef = .iface 129 (.pointer (some (A 0))) := hlate 11 (earlyS (by kernel_rfl))
      have eg : f.tmps.getD 83 undef = .bool false := depS (V := (VH8 A g8 g10 z)) hdep 13 83 (by decide) (by kernel_rfl)
      clear hdep hsame hi hlate hfr hkeep
      exact .inl ⟨wanted_of 13 rfl eg (by kernel_rfl), showsO_move hsn rfl _ rfl e11⟩
    | 15, hi =>
      cases (show some _ = some o from hi)
      have e84 : (f.tmps.getD 84 undef) = .iface 129 (.pointer (some (A 0))) := depS (V := (VH8 A g8 g10 z)) hdep 14 84 (by decide) (by kernel_rfl)
      have eg : f.tmps.getD 83 undef = .bool false := depS (V := (VH8 A g8 g10 z)) hdep 13 83 (by decide) (by kernel_rfl)
      clear hdep hsame hi hlate hfr hkeep
      have c := isE_any (HE.out u hbw) (ErrV.plain 0 (by decide)) 1
      exact .inl ⟨wanted_of 13 rfl eg (by kernel_rfl), showsO_call1 hsn rfl 22 #[.iface 129 (.pointer (some (A 0))), .int .i64 1] (by simp only [execOp, Act.eval]; go_simp) (c) (fun _ => rfl)⟩
    | 16, hi =>
      cases (show some _ = some o from hi)
      have e85 : (f.tmps.getD 85 undef) = .bool true := depS (V := (VH8 A g8 g10 z)) hdep 15 85 (by decide) (by kernel_rfl)
      have eg : f.tmps.getD 83 undef = .bool false := depS (V := (VH8 A g8 g10 z)) hdep 13 83 (by decide) (by kernel_rfl)
      clear hdep hsame hi hlate hfr hkeep
      exact .inl ⟨wanted_of 13 rfl eg (by kernel_rfl), showsO_pure hsn rfl (.bool false) (by simp only [execOp, Act.eval]; go_simp) rfl⟩
    | 17, hi =>
      cases (show some _ = some o from hi)
      have e83 : (f.tmps.getD 83 undef) = .bool false := depS (V := (VH8 A g8 g10 z)) hdep 13 83 (by decide) (by kernel_rfl)
      have e86 : (f.tmps.getD 86 undef) = .bool false := depS (V := (VH8 A g8 g10 z)) hdep 16 86 (by decide) (by kernel_rfl)
      clear hdep hsame hi hlate hfr hkeep
      exact .inl ⟨wanted_none rfl, showsO_pure hsn rfl (.bool false) (by simp only [execOp, Act.eval]; go_simp) rfl⟩
    | 18, hi =>
      cases (show some _ = some o from hi)
      have e87 : (f.tmps.getD 87 undef) = .bool false := depS (V := (VH8 A g8 g10 z)) hdep 17 87 (by decide) (by kernel_rfl)
      clear hdep hsame hi hlate hfr hkeep
      exact .inl ⟨wanted_none rfl, showsO_move hsn rfl _ rfl e87⟩
    | 19, hi =>
      cases (show some _ = some o from hi)
      have e5 : f.tmps.getD 5 undef = .pointer none := hlate 5 (earlyS (by kernel_rfl))
      have eg : f.tmps.getD 88 undef = .bool false := depS (V := (VH8 A g8 g10 z)) hdep 18 88 (by decide) (by kernel_rfl)
      clear hdep hsame hi hlate hfr hkeep
      exact .inl ⟨wanted_of 18 rfl eg (by kernel_rfl), showsO_move hsn rfl _ rfl e5⟩
    | 20, hi =>
      cases (show some _ = some o from hi)
      have e89 : (f.tmps.getD 89 undef) = .pointer none := depS (V := (VH8 A g8 g10 z)) hdep 19 89 (by decide) (by kernel_rfl)
      have eg : f.tmps.getD 88 undef = .bool false := depS (V := (VH8 A g8 g10 z)) hdep 18 88 (by decide) (by kernel_rfl)
      clear hdep hsame hi hlate hfr hkeep
      have c := rcopy_dead u _ (DN.out u)
      exact .inl ⟨wanted_of 18 rfl eg (by kernel_rfl), showsO_call1 hsn rfl 17 #[.pointer none] (by simp only [execOp, Act.eval]; go_simp) (c) (fun _ => rfl)⟩
    | 21, hi =>
      cases (show some _ = some o from hi)
      have e90 : (f.tmps.getD 90 undef) = .pointer none := depS (V := (VH8 A g8 g10 z)) hdep 20 90 (by decide) (by kernel_rfl)
      have eg : f.tmps.getD 88 undef = .bool false := depS (V := (VH8 A g8 g10 z)) hdep 18 88 (by decide) (by kernel_rfl)
      clear hdep hsame hi hlate hfr hkeep
      exact .inl ⟨wanted_of 18 rfl eg (by kernel_rfl), showsO_pure hsn rfl (.bool false) (by simp only [execOp, Act.eval]; go_simp) rfl⟩
    | 22, hi =>
      cases (show some _ = some o from hi)
      have e88 : (f.tmps.getD 88 undef) = .bool false := depS (V := (VH8 A g8 g10 z)) hdep 18 88 (by decide) (by kernel_rfl)
      have e91 : (f.tmps.getD 91 undef) = .bool false := depS (V := (VH8 A g8 g10 z)) hdep 21 91 (by decide) (by kernel_rfl)
      clear hdep hsame hi hlate hfr hkeep
      exact .inl ⟨wanted_none rfl, showsO_pure hsn rfl (.bool false) (by simp only [execOp, Act.eval]; go_simp) rfl⟩
    | 23, hi =>
      cases (show some _ = some o from hi)
      have e92 : (f.tmps.getD 92 undef) = .bool false := depS (V := (VH8 A g8 g10 z)) hdep 22 92 (by decide) (by kernel_rfl)
      clear hdep hsame hi hlate hfr hkeep
      exact .inl ⟨wanted_none rfl, showsO_move hsn rfl _ rfl e92⟩
    | 24, hi =>
      cases (show some _ = some o from hi)
      have e6 : f.tmps.getD 6 undef = .pointer (some ⟨z, 0, none⟩) := hlate 6 (earlyS (by kernel_rfl))
      have eg : f.tmps.getD 93 undef = .bool false := depS (V := (VH8 A g8 g10 z)) hdep 23 93 (by decide) (by kernel_rfl)
      clear hdep hsame hi hlate hfr hkeep
      exact .inl ⟨wanted_of 23 rfl eg (by kernel_rfl), showsO_move hsn rfl _ rfl e6⟩
    | 25, hi =>
      cases (show some _ = some o from hi)
      have e94 : (f.tmps.getD 94 undef) = .pointer (some ⟨z, 0, none⟩) := depS (V := (VH8 A g8 g10 z)) hdep 24 94 (by decide) (by kernel_rfl)
      have eg : f.tmps.getD 93 undef = .bool false := depS (V := (VH8 A g8 g10 z)) hdep 23 93 (by decide) (by kernel_rfl)
      clear hdep hsame hi hlate hfr hkeep
      have c := rcopy_dead u _ (DZ.out u hbw)
      exact .inl ⟨wanted_of 23 rfl eg (by kernel_rfl), showsO_call1 hsn rfl 17 #[.pointer (some ⟨z, 0, none⟩)] (by simp only [execOp, Act.eval]; go_simp) (c) (fun _ => rfl)⟩
    | 26, hi =>
      cases (show some _ = some o from hi)
      have e95 : (f.tmps.getD 95 undef) = .pointer none := depS (V := (VH8 A g8 g10 z)) hdep 25 95 (by decide) (by kernel_rfl)
      have eg : f.tmps.getD 93 undef = .bool false := depS (V := (VH8 A g8 g10 z)) hdep 23 93 (by decide) (by kernel_rfl)
      clear hdep hsame hi hlate hfr hkeep
      exact .inl ⟨wanted_of 23 rfl eg (by kernel_rfl), showsO_pure hsn rfl (.bool false) (by simp only [execOp, Act.eval]; go_simp) rfl⟩
    | 27, hi =>
      cases (show some _ = some o from hi)
      have e93 : (f.tmps.getD 93 undef) = .bool false := depS (V := (VH8 A g8 g10 z)) hdep 23 93 (by decide) (by kernel_rfl)
      have e96 : (f.tmps.getD 96 undef) = .bool false := depS (V := (VH8 A g8 g10 z)) hdep 26 96 (by decide) (by kernel_rfl)
      clear hdep hsame hi hlate hfr hkeep
      exact .inl ⟨wanted_none rfl, showsO_pure hsn rfl (.bool false) (by simp only [execOp, Act.eval]; go_simp) rfl⟩
    | n + 28, hi => exact absurd hi (by simp)
  intro f u7 own hsame hsn hall
  have q70 : f.tmps.getD 70 undef = .agg (ocells (zero32')) := finO (V := (VH8 A g8 g10 z)) hall 0 70 rfl
  have q71 : f.tmps.getD 71 undef = .agg (ocells (zero32')) := finO (V := (VH8 A g8 g10 z)) hall 1 71 rfl
  have q72 : f.tmps.getD 72 undef = .bool false := finO (V := (VH8 A g8 g10 z)) hall 2 72 rfl
  have q73 : f.tmps.getD 73 undef = .bool false := finO (V := (VH8 A g8 g10 z)) hall 3 73 rfl
  have q74 : f.tmps.getD 74 undef = .agg (ocells (zero32')) := finO (V := (VH8 A g8 g10 z)) hall 4 74 rfl
  have q75 : f.tmps.getD 75 undef = .agg (ocells (zero32')) := finO (V := (VH8 A g8 g10 z)) hall 5 75 rfl
  have q76 : f.tmps.getD 76 undef = .bool false := finO (V := (VH8 A g8 g10 z)) hall 6 76 rfl
  have q77 : f.tmps.getD 77 undef = .bool false := finO (V := (VH8 A g8 g10 z)) hall 7 77 rfl
  have q78 : f.tmps.getD 78 undef = .bool false := finO (V := (VH8 A g8 g10 z)) hall 8 78 rfl
  have q79 : f.tmps.getD 79 undef = .iface 129 (.pointer (some (A 0))) := finO (V := (VH8 A g8 g10 z)) hall 9 79 rfl
  have q80 : f.tmps.getD 80 undef = .bool true := finO (V := (VH8 A g8 g10 z)) hall 10 80 rfl
  have q81 : f.tmps.getD 81 undef = .bool false := finO (V := (VH8 A g8 g10 z)) hall 11 81 rfl
  have q82 : f.tmps.getD 82 undef = .bool false := finO (V := (VH8 A g8 g10 z)) hall 12 82 rfl
  have q83 : f.tmps.getD 83 undef = .bool false := finO (V := (VH8 A g8 g10 z)) hall 13 83 rfl
  have q84 : f.tmps.getD 84 undef = .iface 129 (.pointer (some (A 0))) := finO (V := (VH8 A g8 g10 z)) hall 14 84 rfl
  have q85 : f.tmps.getD 85 undef = .bool true := finO (V := (VH8 A g8 g10 z)) hall 15 85 rfl
  have q86 : f.tmps.getD 86 undef = .bool false := finO (V := (VH8 A g8 g10 z)) hall 16 86 rfl
  have q87 : f.tmps.getD 87 undef = .bool false := finO (V := (VH8 A g8 g10 z)) hall 17 87 rfl
  have q88 : f.tmps.getD 88 undef = .bool false := finO (V := (VH8 A g8 g10 z)) hall 18 88 rfl
  have q89 : f.tmps.getD 89 undef = .pointer none := finO (V := (VH8 A g8 g10 z)) hall 19 89 rfl
  have q90 : f.tmps.getD 90 undef = .pointer none := finO (V := (VH8 A g8 g10 z)) hall 20 90 rfl
  have q91 : f.tmps.getD 91 undef = .bool false := finO (V := (VH8 A g8 g10 z)) hall 21 91 rfl
  have q92 : f.tmps.getD 92 undef = .bool false := finO (V := (VH8 A g8 g10 z)) hall 22 92 rfl
  have q93 : f.tmps.getD 93 undef = .bool false := finO (V := (VH8 A g8 g10 z)) hall 23 93 rfl
  have q94 : f.tmps.getD 94 undef = .pointer (some ⟨z, 0, none⟩) := finO (V := (VH8 A g8 g10 z)) hall 24 94 rfl
  have q95 : f.tmps.getD 95 undef = .pointer none := finO (V := (VH8 A g8 g10 z)) hall 25 95 rfl
  have q96 : f.tmps.getD 96 undef = .bool false := finO (V := (VH8 A g8 g10 z)) hall 26 96 rfl
  have q97 : f.tmps.getD 97 undef = .bool false := finO (V := (VH8 A g8 g10 z)) hall 27 97 rfl
  obtain rfl := frame_eq hsame [(70, .agg (ocells (zero32'))), (71, .agg (ocells (zero32'))), (72, .bool false), (73, .bool false), (74, .agg (ocells (zero32'))), (75, .agg (ocells (zero32'))), (76, .bool false), (77, .bool false), (78, .bool false), (79, .iface 129 (.pointer (some (A 0)))), (80, .bool true), (81, .bool false), (82, .bool false), (83, .bool false), (84, .iface 129 (.pointer (some (A 0)))), (85, .bool true), (86, .bool false), (87, .bool false), (88, .bool false), (89, .pointer none), (90, .pointer none), (91, .bool false), (92, .bool false), (93, .bool false), (94, .pointer (some ⟨z, 0, none⟩)), (95, .pointer none), (96, .bool false), (97, .bool false)] (by kernel_rfl) ⟨q70, q71, q72, q73, q74, q75, q76, q77, q78, q79, q80, q81, q82, q83, q84, q85, q86, q87, q88, q89, q90, q91, q92, q93, q94, q95, q96, q97, trivial⟩
  clear hall hsame q70 q71 q72 q73 q74 q75 q76 q77 q78 q79 q80 q81 q82 q83 q84 q85 q86 q87 q88 q89 q90 q91 q92 q93 q94 q95 q96 q97
  simp only [List.foldl, List.setIfInBounds_toArray, List.set_cons_succ, List.set_cons_zero]
  have hb := hsn.below (B := u6.heap.size) (fun _ _ => rfl) (Nat.le_refl _)
  have B7 := Bx.mk (B6.out.trans (hb.mono B6.out.size)); clear hb hsn
  go_upto_region 10 with (fail)
  refine wp_region_seq8 (n := 121) VH10mk (fun _ => none) (VH10 A z) (by kernel_rfl) rfl (fun _ _ => rfl) (fun j i hj _ => by cases hj) ?_ ?_ ?_
  · exact fun oi oj v own w own' w' hij h r => VH10_mono A z oi oj v own w own' w' (by omega)  h r
  · intro oi o hi f u own hsame hsn hfr hlate hkeep8 hdep
    have hkeep := hkeep8 _ (Nat.le_refl _)
    have hb6 := hsn.below (B := u7.heap.size) (fun _ _ => rfl) (Nat.le_refl _)
    have hbw := B7.out.trans (hb6.mono B7.out.size)
    match oi, hi with
    | 0, hi =>
      cases (show some _ = some o from hi)
      have e5 : f.tmps.getD 5 undef = .pointer none := hlate 5 (earlyS (by kernel_rfl))
      clear hdep hsame hi hlate hfr hkeep
      exact .inl ⟨wanted_none rfl, showsO_move hsn rfl _ rfl e5⟩
    | 1, hi =>
      cases (show some _ = some o from hi)
      have e98 : (f.tmps.getD 98 undef) = .pointer none := depS (V := (VH10 A z)) hdep 0 98 (by decide) (by kernel_rfl)
      clear hdep hsame hi hlate hfr hkeep
      have c := rspan_dead u _ (DN.out u)
      exact .inl ⟨wanted_none rfl, showsO_call1 hsn rfl 20 #[.pointer none] (by simp only [execOp, Act.eval]; go_simp) (c) (fun _ => rfl)⟩
    | 2, hi =>
      cases (show some _ = some o from hi)
      clear hdep hsame hi hlate hfr hkeep
      exact .inl ⟨wanted_none rfl, showsO_build hsn rfl 39 #[] rfl #[.int .u64 0, .int .u64 0] (by simp only [List.map_toArray, List.map_nil]; exact built_span00C) rfl⟩
    | 3, hi =>
      cases (show some _ = some o from hi)
      have e99 : (f.tmps.getD 99 undef) = .agg #[.int .u64 0, .int .u64 0] := depS (V := (VH10 A z)) hdep 1 99 (by decide) (by kernel_rfl)
      have e100 : (f.tmps.getD 100 undef) = .agg #[.int .u64 0, .int .u64 0] := depS (V := (VH10 A z)) hdep 2 100 (by decide) (by kernel_rfl)
      clear hdep hsame hi hlate hfr hkeep
      exact .inl ⟨wanted_none rfl, showsO_pure hsn rfl (.bool true) (by simp only [execOp, Act.eval]; go_simp <;> rfl) rfl⟩
    | 4, hi =>
      cases (show some _ = some o from hi)
      have e101 : (f.tmps.getD 101 undef) = .bool true := depS (V := (VH10 A z)) hdep 3 101 (by decide) (by kernel_rfl)
      clear hdep hsame hi hlate hfr hkeep
      exact .inl ⟨wanted_none rfl, showsO_move hsn rfl _ rfl e101⟩
    | 5, hi =>
      cases (show some _ = some o from hi)
      have e6 : f.tmps.getD 6 undef = .pointer (some ⟨z, 0, none⟩) := hlate 6 (earlyS (by kernel_rfl))
      have eg : f.tmps.getD 102 undef = .bool true := depS (V := (VH10 A z)) hdep 4 102 (by decide) (by kernel_rfl)
      clear hdep hsame hi hlate hfr hkeep
      exact .inl ⟨wanted_of 4 rfl eg (by kernel_rfl), showsO_move hsn rfl _ rfl e6⟩
    | 6, hi =>
      cases (show some _ = some o from hi)
      have e103 : (f.tmps.getD 103 undef) = .pointer (some ⟨z, 0, none⟩) := depS (V := (VH10 A z)) hdep 5 103 (by decide) (by kernel_rfl)
      have eg : f.tmps.getD 102 undef = .bool true := depS (V := (VH10 A z)) hdep 4 102 (by decide) (by kernel_rfl)
      clear hdep hsame hi hlate hfr hkeep
      have c := rspan_dead u _ (DZ.out u hbw)
      exact .inl ⟨wanted_of 4 rfl eg (by kernel_rfl), showsO_call1 hsn rfl 20 #[.pointer (some ⟨z, 0, none⟩)] (by simp only [execOp, Act.eval]; go_simp) (c) (fun _ => rfl)⟩
    | 7, hi =>
      cases (show some _ = some o from hi)
      have eg : f.tmps.getD 102 undef = .bool true := depS (V := (VH10 A z)) hdep 4 102 (by decide) (by kernel_rfl)
      clear hdep hsame hi hlate hfr hkeep
      exact .inl ⟨wanted_of 4 rfl eg (by kernel_rfl), showsO_build hsn rfl 39 #[] rfl #[.int .u64 0, .int .u64 0] (by simp only [List.map_toArray, List.map_nil]; exact built_span00C) rfl⟩
    | 8, hi =>
      cases (show some _ = some o from hi)
      have e104 : (f.tmps.getD 104 undef) = .agg #[.int .u64 0, .int .u64 0] := depS (V := (VH10 A z)) hdep 6 104 (by decide) (by kernel_rfl)
      have e105 : (f.tmps.getD 105 undef) = .agg #[.int .u64 0, .int .u64 0] := depS (V := (VH10 A z)) hdep 7 105 (by decide) (by kernel_rfl)
      have eg : f.tmps.getD 102 undef = .bool true := depS (V := (VH10 A z)) hdep 4 102 (by decide) (by kernel_rfl)
      clear hdep hsame hi hlate hfr hkeep
      exact .inl ⟨wanted_of 4 rfl eg (by kernel_rfl), showsO_pure hsn rfl (.bool true) (by simp only [execOp, Act.eval]; go_simp <;> rfl) rfl⟩
    | 9, hi =>
      cases (show some _ = some o from hi)
      have e102 : (f.tmps.getD 102 undef) = .bool true := depS (V := (VH10 A z)) hdep 4 102 (by decide) (by kernel_rfl)
      have e106 : (f.tmps.getD 106 undef) = .bool true := depS (V := (VH10 A z)) hdep 8 106 (by decide) (by kernel_rfl)
      clear hdep hsame hi hlate hfr hkeep
      exact .inl ⟨wanted_none rfl, showsO_pure hsn rfl (.bool true) (by simp only [execOp, Act.eval]; go_simp) rfl⟩
    | 10, hi =>
      cases (show some _ = some o from hi)
      have e107 : (f.tmps.getD 107 undef) = .bool true := depS (V := (VH10 A z)) hdep 9 107 (by decide) (by kernel_rfl)
      clear hdep hsame hi hlate hfr hkeep
      exact .inl ⟨wanted_none rfl, showsO_move hsn rfl _ rfl e107⟩
    | 11, hi =>
      cases (show some _ = some o from hi)
      have e5 : f.tmps.getD 5 undef = .pointer none := hlate 5 (earlyS (by kernel_rfl))
      have eg : f.tmps.getD 108 undef = .bool true := depS (V := (VH10 A z)) hdep 10 108 (by decide) (by kernel_rfl)
      clear hdep hsame hi hlate hfr hkeep
      exact .inl ⟨wanted_of 10 rfl eg (by kernel_rfl), showsO_move hsn rfl _ rfl e5⟩
    | 12, hi =>
      cases (show some _ = some o from hi)
      have e109 : (f.tmps.getD 109 undef) = .pointer none := depS (V := (VH10 A z)) hdep 11 109 (by decide) (by kernel_rfl)
      have eg : f.tmps.getD 108 undef = .bool true := depS (V := (VH10 A z)) hdep 10 108 (by decide) (by kernel_rfl)
      clear hdep hsame hi hlate hfr hkeep
      have c := rhash_dead u _ (DN.out u)
      exact .inl ⟨wanted_of 10 rfl eg (by kernel_rfl), showsO_call1 hsn rfl 13 #[.pointer none] (by simp only [execOp, Act.eval]; go_simp) (c) (fun _ => rfl)⟩
    | 13, hi =>
      cases (show some _ = some o from hi)
      have e110 : (f.tmps.getD 110 undef) = .slice none 0 0 := depS (V := (VH10 A z)) hdep 12 110 (by decide) (by kernel_rfl)
      have eg : f.tmps.getD 108 undef = .bool true := depS (V := (VH10 A z)) hdep 10 108 (by decide) (by kernel_rfl)
      clear hdep hsame hi hlate hfr hkeep
      exact .inl ⟨wanted_of 10 rfl eg (by kernel_rfl), showsO_pure hsn rfl (.int .i64 0) (by simp only [execOp, Act.eval]; go_simp) rfl⟩
    | 14, hi =>
      cases (show some _ = some o from hi)
      have e6 : f.tmps.getD 6 undef = .pointer (some ⟨z, 0, none⟩) := hlate 6 (earlyS (by kernel_rfl))
      have eg : f.tmps.getD 108 undef = .bool true := depS (V := (VH10 A z)) hdep 10 108 (by decide) (by kernel_rfl)
      clear hdep hsame hi hlate hfr hkeep
      exact .inl ⟨wanted_of 10 rfl eg (by kernel_rfl), showsO_move hsn rfl _ rfl e6⟩
    | 15, hi =>
      cases (show some _ = some o from hi)
      have e112 : (f.tmps.getD 112 undef) = .pointer (some ⟨z, 0, none⟩) := depS (V := (VH10 A z)) hdep 14 112 (by decide) (by kernel_rfl)
      have eg : f.tmps.getD 108 undef = .bool true := depS (V := (VH10 A z)) hdep 10 108 (by decide) (by kernel_rfl)
      clear hdep hsame hi hlate hfr hkeep
      have c := rhash_dead u _ (DZ.out u hbw)
      exact .inl ⟨wanted_of 10 rfl eg (by kernel_rfl), showsO_call1 hsn rfl 13 #[.pointer (some ⟨z, 0, none⟩)] (by simp only [execOp, Act.eval]; go_simp) (c) (fun _ => rfl)⟩
    | 16, hi =>
      cases (show some _ = some o from hi)
      have e113 : (f.tmps.getD 113 undef) = .slice none 0 0 := depS (V := (VH10 A z)) hdep 15 113 (by decide) (by kernel_rfl)
      have eg : f.tmps.getD 108 undef = .bool true := depS (V := (VH10 A z)) hdep 10 108 (by decide) (by kernel_rfl)
      clear hdep hsame hi hlate hfr hkeep
      exact .inl ⟨wanted_of 10 rfl eg (by kernel_rfl), showsO_pure hsn rfl (.int .i64 0) (by simp only [execOp, Act.eval]; go_simp) rfl⟩
    | 17, hi =>
      cases (show some _ = some o from hi)
      have e111 : (f.tmps.getD 111 undef) = .int .i64 0 := depS (V := (VH10 A z)) hdep 13 111 (by decide) (by kernel_rfl)
      have e114 : (f.tmps.getD 114 undef) = .int .i64 0 := depS (V := (VH10 A z)) hdep 16 114 (by decide) (by kernel_rfl)
      have eg : f.tmps.getD 108 undef = .bool true := depS (V := (VH10 A z)) hdep 10 108 (by decide) (by kernel_rfl)
      clear hdep hsame hi hlate hfr hkeep
      exact .inl ⟨wanted_of 10 rfl eg (by kernel_rfl), showsO_pure hsn rfl (.int .i64 0) (by simp only [execOp, Act.eval]; go_simp; rfl) rfl⟩
    | 18, hi =>
      cases (show some _ = some o from hi)
      have e115 : (f.tmps.getD 115 undef) = .int .i64 0 := depS (V := (VH10 A z)) hdep 17 115 (by decide) (by kernel_rfl)
      have eg : f.tmps.getD 108 undef = .bool true := depS (V := (VH10 A z)) hdep 10 108 (by decide) (by kernel_rfl)
      clear hdep hsame hi hlate hfr hkeep
      exact .inl ⟨wanted_of 10 rfl eg (by kernel_rfl), showsO_pure hsn rfl (.bool true) (by simp only [execOp, Act.eval]; go_simp) rfl⟩
    | 19, hi =>
      cases (show some _ = some o from hi)
      have e108 : (f.tmps.getD 108 undef) = .bool true := depS (V := (VH10 A z)) hdep 10 108 (by decide) (by kernel_rfl)
      have e116 : (f.tmps.getD 116 undef) = .bool true := depS (V := (VH10 A z)) hdep 18 116 (by decide) (by kernel_rfl)
      clear hdep hsame hi hlate hfr hkeep
      exact .inl ⟨wanted_none rfl, showsO_pure hsn rfl (.bool true) (by simp only [execOp, Act.eval]; go_simp) rfl⟩
    | 20, hi =>
      cases (show some _ = some o from hi)
      have e117 : (f.tmps.getD 117 undef) = .bool true := depS (V := (VH10 A z)) hdep 19 117 (by decide) (by kernel_rfl)
      clear hdep hsame hi hlate hfr hkeep
      exact .inl ⟨wanted_none rfl, showsO_move hsn rfl _ rfl e117⟩
    | 21, hi =>
      cases (show some _ = some o from hi)
      have eg : f.tmps.getD 118 undef = .bool true := depS (V := (VH10 A z)) hdep 20 118 (by decide) (by kernel_rfl)
      clear hdep hsame hi hlate hfr hkeep
      have c := alive09_any A u (HH.out.below hbw)
      exact .inl ⟨wanted_of 20 rfl eg (by kernel_rfl), showsO_call1 hsn rfl 7 #[] (by simp only [execOp, Act.eval]; go_simp) (c) (fun _ => rfl)⟩
    | 22, hi =>
      cases (show some _ = some o from hi)
      have e118 : (f.tmps.getD 118 undef) = .bool true := depS (V := (VH10 A z)) hdep 20 118 (by decide) (by kernel_rfl)
      have e119 : (f.tmps.getD 119 undef) = .bool true := depS (V := (VH10 A z)) hdep 21 119 (by decide) (by kernel_rfl)
      clear hdep hsame hi hlate hfr hkeep
      exact .inl ⟨wanted_none rfl, showsO_pure hsn rfl (.bool true) (by simp only [execOp, Act.eval]; go_simp) rfl⟩
    | 23, hi =>
      cases (show some _ = some o from hi)
      have e120 : (f.tmps.getD 120 undef) = .bool true := depS (V := (VH10 A z)) hdep 22 120 (by decide) (by kernel_rfl)
      clear hdep hsame hi hlate hfr hkeep
      exact .inl ⟨wanted_none rfl, showsO_assign hsn rfl _ rfl e120⟩
    | n + 24, hi => exact absurd hi (by simp)
  intro f u8 own hsame hsn hall
  have q98 : f.tmps.getD 98 undef = .pointer none := finO (V := (VH10 A z)) hall 0 98 rfl
  have q99 : f.tmps.getD 99 undef = .agg #[.int .u64 0, .int .u64 0] := finO (V := (VH10 A z)) hall 1 99 rfl
  have q100 : f.tmps.getD 100 undef = .agg #[.int .u64 0, .int .u64 0] := finO (V := (VH10 A z)) hall 2 100 rfl
  have q101 : f.tmps.getD 101 undef = .bool true := finO (V := (VH10 A z)) hall 3 101 rfl
  have q102 : f.tmps.getD 102 undef = .bool true := finO (V := (VH10 A z)) hall 4 102 rfl
  have q103 : f.tmps.getD 103 undef = .pointer (some ⟨z, 0, none⟩) := finO (V := (VH10 A z)) hall 5 103 rfl
  have q104 : f.tmps.getD 104 undef = .agg #[.int .u64 0, .int .u64 0] := finO (V := (VH10 A z)) hall 6 104 rfl
  have q105 : f.tmps.getD 105 undef = .agg #[.int .u64 0, .int .u64 0] := finO (V := (VH10 A z)) hall 7 105 rfl
  have q106 : f.tmps.getD 106 undef = .bool true := finO (V := (VH10 A z)) hall 8 106 rfl
  have q107 : f.tmps.getD 107 undef = .bool true := finO (V := (VH10 A z)) hall 9 107 rfl
  have q108 : f.tmps.getD 108 undef = .bool true := finO (V := (VH10 A z)) hall 10 108 rfl
  have q109 : f.tmps.getD 109 undef = .pointer none := finO (V := (VH10 A z)) hall 11 109 rfl
  have q110 : f.tmps.getD 110 undef = .slice none 0 0 := finO (V := (VH10 A z)) hall 12 110 rfl
  have q111 : f.tmps.getD 111 undef = .int .i64 0 := finO (V := (VH10 A z)) hall 13 111 rfl
  have q112 : f.tmps.getD 112 undef = .pointer (some ⟨z, 0, none⟩) := finO (V := (VH10 A z)) hall 14 112 rfl
  have q113 : f.tmps.getD 113 undef = .slice none 0 0 := finO (V := (VH10 A z)) hall 15 113 rfl
  have q114 : f.tmps.getD 114 undef = .int .i64 0 := finO (V := (VH10 A z)) hall 16 114 rfl
  have q115 : f.tmps.getD 115 undef = .int .i64 0 := finO (V := (VH10 A z)) hall 17 115 rfl
  have q116 : f.tmps.getD 116 undef = .bool true := finO (V := (VH10 A z)) hall 18 116 rfl
  have q117 : f.tmps.getD 117 undef = .bool true := finO (V := (VH10 A z)) hall 19 117 rfl
  have q118 : f.tmps.getD 118 undef = .bool true := finO (V := (VH10 A z)) hall 20 118 rfl
  have q119 : f.tmps.getD 119 undef = .bool true := finO (V := (VH10 A z)) hall 21 119 rfl
  have q120 : f.tmps.getD 120 undef = .bool true := finO (V := (VH10 A z)) hall 22 120 rfl
  have q4 : f.tmps.getD 4 undef = .bool true := finO (V := (VH10 A z)) hall 23 4 rfl
  obtain rfl := frame_eq hsame [(98, .pointer none), (99, .agg #[.int .u64 0, .int .u64 0]), (100, .agg #[.int .u64 0, .int .u64 0]), (101, .bool true), (102, .bool true), (103, .pointer (some ⟨z, 0, none⟩)), (104, .agg #[.int .u64 0, .int .u64 0]), (105, .agg #[.int .u64 0, .int .u64 0]), (106, .bool true), (107, .bool true), (108, .bool true), (109, .pointer none), (110, .slice none 0 0), (111, .int .i64 0), (112, .pointer (some ⟨z, 0, none⟩)), (113, .slice none 0 0), (114, .int .i64 0), (115, .int .i64 0), (116, .bool true), (117, .bool true), (118, .bool true), (119, .bool true), (120, .bool true), (4, .bool true)] (by kernel_rfl) ⟨q98, q99, q100, q101, q102, q103, q104, q105, q106, q107, q108, q109, q110, q111, q112, q113, q114, q115, q116, q117, q118, q119, q120, q4, trivial⟩
  clear hall hsame q98 q99 q100 q101 q102 q103 q104 q105 q106 q107 q108 q109 q110 q111 q112 q113 q114 q115 q116 q117 q118 q119 q120 q4
  simp only [List.foldl, List.setIfInBounds_toArray, List.set_cons_succ, List.set_cons_zero]
  have hb := hsn.below (B := u7.heap.size) (fun _ _ => rfl) (Nat.le_refl _)
  have B8 := Bx.mk (B7.out.trans (hb.mono B7.out.size)); clear hb hsn
  go_wp2_with fail
  go_ret
  exact ⟨rfl, K.out.trans (B8.out.mono K.out.size)⟩
end Go.Proofs.YtgbafjmklefoiaaDoor
