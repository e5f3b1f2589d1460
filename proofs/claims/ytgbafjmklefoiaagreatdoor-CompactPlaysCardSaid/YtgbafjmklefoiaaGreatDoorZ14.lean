/- (*compact.Range).Append, Span. -/
import Derived.Test.YtgbafjmklefoiaaGreatDoorZ12
import Derived.Test.YtgbafjmklefoiaaGreatDoorZ13
namespace Go.Proofs.YtgbafjmklefoiaaGreatDoor
set_option maxRecDepth 100000
open Go.RowKit
/-- what a law of chapter 09 keeps of the world -/
structure Cm (A : Nat → Addr) (w : World) : Prop where
  hs : Hs A w
theorem Cm.below {A : Nat → Addr} {w w' : World} (h : Cm A w) (k : Below w.heap.size w w') : Cm A w' := ⟨h.hs.below k⟩
/-- what a call that pushes leaves -/
def PuL (base : Nat) (w w' : World) (r B E : Nat) (l : List (Nat × Nat × List UInt8)) (s : Value) : Prop :=
  ∃ s', RaP base w' r B E l s' ∧ Keep (RaS r s) w w' ∧ ∀ k, s'.ownBlock = some k → s.ownBlock = some k ∨ w.heap.size ≤ k
theorem rset_end {base : Nat} {w : World} {r B E : Nat} {l : List (Nat × Nat × List UInt8)} {s : Value} (h : RaP base w r B E l s) (E' : Nat) : RaP base (w.setCell ⟨r, 2, none⟩ (.int .u64 (E' : Int))) r B E' l s := by
  refine ⟨?_, h.bb, ?_, h.h32⟩
  · simp [World.setCell, Array.getElem?_modify, h.hb]
  · exact ownsRow_setCell_ne h.own ⟨r, 2, none⟩ _ (fun j hj e => own_ne_blk h.own h.hb (by decide) j hj e)
def VC5 (r _N E : Nat) (p : List UInt8) (oi : Nat) (v : Value) (_own : Nat → Option Nat) (_w : World) : Prop :=
  match oi with
  | 0 => v = .pointer (some ⟨r, 0, none⟩)
  | 1 => v = .pointer (some ⟨r, 0, none⟩)
  | 2 => v = .pointer (some ⟨r, 0, none⟩)
  | 3 => v = .pointer (some ⟨r, 1, none⟩)
  | 4 => v = .pointer (some ⟨r, 2, none⟩)
  | 5 => v = .int .u64 (E : Int)
  | 6 => v = .agg #[.int .u8 0, .int .u64 (E : Int)]
  | 7 => v = .agg (ocells (p))
  | 8 => v = .agg (ncell (0, E, p))
  | _ => True
def VC5mk : Nat → Option Nat := fun _ => none
theorem VC5_mono (r N E : Nat) (p : List UInt8) (oi oj : Nat) (v : Value) (own : Nat → Option Nat) (w : World) (own' : Nat → Option Nat) (w' : World) (hij : oi ≠ oj)   (h : VC5 r N E p oj v own w) (_r1 : Rel VC5mk oi own w own' w') : VC5 r N E p oj v own' w' := by
  unfold VC5 at h ⊢
  split at h
  · exact h
  · exact h
  · exact h
  · exact h
  · exact h
  · exact h
  · exact h
  · exact h
  · exact h
  · trivial

set_option maxHeartbeats 1600000 in
theorem rapp_any (base : Nat) (w : World) (r B E : Nat) (l : List (Nat × Nat × List UInt8)) (s : Value) (hR : RaP base w r B E l s) (p : List UInt8) (hp : p.length = 32) (hT : ∀ u, Below base w u → TabS u) (hbase : base ≤ w.heap.size) (hm : l.length ≤ 1000) (hE : E < 9223372036854775808) :
    Calls Tryz.prog 17 #[.pointer (some ⟨r, 0, none⟩), hv p] w fun e w' => e = .returned .nilIface ∧ PuL base w w' r B (E + 1) (pushN l (0, E, p)) s := by
  have kb := er_al (Below.refl w.heap.size w) (.cells (ocells p) 81)
  have xN := heap_alloc_new w (.cells (ocells p) 81)
  have h2 := hR.below kb
  have hrl := hR.lt r (.inl rfl)
  unfold hv
  go_enter Tryz.func17, Tryz.ntmps17
  go_upto_region 1 with (fail)
  change Code.wp _ _ _ _ (w.alloc (.cells (ocells p) 81))
  generalize w.alloc (.cells (ocells p) 81) = W at kb xN h2 ⊢
  obtain ⟨N, hN⟩ : ∃ N, N = w.heap.size := ⟨_, rfl⟩
  rw [← hN] at xN ⊢
  have KB := Bx.mk kb; have XN := Bx.mk xN; have R0 := Bx.mk h2; have PL := Bx.mk hp; have HT := Bx.mk hT; have HB := Bx.mk hbase; have LM := Bx.mk hm; have EL := Bx.mk hE
  have GE : Bx (∀ k, RaS r s k → base ≤ k) := ⟨fun k hk => hR.ge k hk⟩
  have NS : Bx (∀ k, RaS r s k → k < w.heap.size) := ⟨fun k hk => hR.lt k hk⟩
  clear kb xN h2 hrl hN hp hT hbase hm hE hR
  go_wp2_with fail
  refine (there_any R0.out).mono ?_
  rintro e W1 ⟨rfl, hb⟩
  have K1 := Bx.mk (KB.out.trans (hb.mono KB.out.size)); have R1 := Bx.mk (R0.out.below hb); have X1 := Bx.mk ((hb.block _ (Array.getElem?_eq_some_iff.1 XN.out).1).trans XN.out)
  clear hb KB XN R0
  have f1 : decide ((9223372036854775808 : Int) ≤ (E : Int)) = false := decide_eq_false (by have := EL.out; omega)
  have c2 := er_cellAt R1.out.hb 2 _ rfl
  have XR := Bx.mk R1.out.hb
  go_upto_region 5 with (fail)
  clear f1 c2
  refine wp_region_last (n := 35) (m := 9) VC5mk (fun _ => none) (VC5 r N E p) (by kernel_rfl) (by kernel_rfl) rfl rfl (by kernel_rfl) (fun _ _ => rfl) (fun j i hj _ => by cases hj) ?_ ?_ ?_
  · exact fun oi oj v own w own' w' hij _ h r1 => VC5_mono r N E p oi oj v own w own' w' hij h r1
  · intro oi o hltm hi f u own hsame hsn hfr hlate hkeep8 hdep
    have hkeep := hkeep8 _ (.inl rfl)
    have hb6 := hsn.below (B := W1.heap.size) (fun _ _ => rfl) (Nat.le_refl _)
    match oi, hi with
    | 0, hi =>
      cases (show some _ = some o from hi)
      have e0 : f.tmps.getD 0 undef = .pointer (some ⟨r, 0, none⟩) := hsame.slot 0 (fun i o h => invB2_not 0 (by kernel_rfl) h)
      clear hdep hsame hi hlate hfr hkeep
      exact .inl ⟨wanted_none rfl, showsO_move hsn rfl _ rfl e0⟩
    | 1, hi =>
      cases (show some _ = some o from hi)
      have e0 : f.tmps.getD 0 undef = .pointer (some ⟨r, 0, none⟩) := hsame.slot 0 (fun i o h => invB2_not 0 (by kernel_rfl) h)
      clear hdep hsame hi hlate hfr hkeep
      exact .inl ⟨wanted_none rfl, showsO_move hsn rfl _ rfl e0⟩
    | 2, hi =>
      cases (show some _ = some o from hi)
      have e17 : (f.tmps.getD 17 undef) = .pointer (some ⟨r, 0, none⟩) := depO (V := (VC5 r N E p)) hdep 1 17 (by kernel_rfl) (by kernel_rfl)
      clear hdep hsame hi hlate hfr hkeep
      exact .inl ⟨wanted_none rfl, showsO_pure hsn rfl (.pointer (some ⟨r, 0, none⟩)) (by simp only [execOp, Act.eval]; go_simp) rfl⟩
    | 3, hi =>
      cases (show some _ = some o from hi)
      have e18 : (f.tmps.getD 18 undef) = .pointer (some ⟨r, 0, none⟩) := depO (V := (VC5 r N E p)) hdep 2 18 (by kernel_rfl) (by kernel_rfl)
      clear hdep hsame hi hlate hfr hkeep
      exact .inl ⟨wanted_none rfl, showsO_pure hsn rfl (.pointer (some ⟨r, 1, none⟩)) (by simp only [execOp, Act.eval]; go_simp) rfl⟩
    | 4, hi =>
      cases (show some _ = some o from hi)
      have e19 : (f.tmps.getD 19 undef) = .pointer (some ⟨r, 1, none⟩) := depO (V := (VC5 r N E p)) hdep 3 19 (by kernel_rfl) (by kernel_rfl)
      clear hdep hsame hi hlate hfr hkeep
      exact .inl ⟨wanted_none rfl, showsO_pure hsn rfl (.pointer (some ⟨r, 2, none⟩)) (by simp only [execOp, Act.eval]; go_simp) rfl⟩
    | 5, hi =>
      cases (show some _ = some o from hi)
      have e20 : (f.tmps.getD 20 undef) = .pointer (some ⟨r, 2, none⟩) := depO (V := (VC5 r N E p)) hdep 4 20 (by kernel_rfl) (by kernel_rfl)
      clear hdep hsame hi hlate hfr hkeep
      have c21 := er_cellAt ((hb6.block _ (Array.getElem?_eq_some_iff.1 XR.out).1).trans XR.out) 2 _ rfl
      exact .inl ⟨wanted_none rfl, showsO_pure hsn rfl (.int .u64 (E : Int)) (by simp only [execOp, Act.eval]; go_simp) rfl⟩
    | 6, hi =>
      cases (show some _ = some o from hi)
      have e21 : (f.tmps.getD 21 undef) = .int .u64 (E : Int) := depO (V := (VC5 r N E p)) hdep 5 21 (by kernel_rfl) (by kernel_rfl)
      clear hdep hsame hi hlate hfr hkeep
      exact .inl ⟨wanted_none rfl, showsO_build hsn rfl 103 #[(1, .tmp 21)] rfl #[.int .u8 0, .int .u64 (E : Int)] (by simp only [List.map_toArray, List.map_cons, List.map_nil, Act.eval]; rw [e21]; exact built_coord1 _) rfl⟩
    | 7, hi =>
      cases (show some _ = some o from hi)
      have e3 : f.tmps.getD 3 undef = .pointer (some ⟨N, 0, none⟩) := hsame.slot 3 (fun i o h => invB2_not 3 (by kernel_rfl) h)
      clear hdep hsame hi hlate hfr hkeep
      exact .inl ⟨wanted_none rfl, showsO_row hsn rfl 81 (.tmp 3) rfl N e3 (ocells (p)) ((hb6.block _ (Array.getElem?_eq_some_iff.1 X1.out).1).trans X1.out) underH rfl (hszL PL.out) rfl⟩
    | 8, hi =>
      cases (show some _ = some o from hi)
      have e22 : (f.tmps.getD 22 undef) = .agg #[.int .u8 0, .int .u64 (E : Int)] := depO (V := (VC5 r N E p)) hdep 6 22 (by kernel_rfl) (by kernel_rfl)
      have e23 : (f.tmps.getD 23 undef) = .agg (ocells (p)) := depO (V := (VC5 r N E p)) hdep 7 23 (by kernel_rfl) (by kernel_rfl)
      clear hdep hsame hi hlate hfr hkeep
      exact .inl ⟨wanted_none rfl, showsO_build hsn rfl 105 #[(0, .tmp 22), (1, .tmp 23)] rfl (ncell (0, E, p)) (by simp only [List.map_toArray, List.map_cons, List.map_nil, Act.eval]; rw [e22, e23]; exact built_node 0 E p PL.out) rfl⟩
    | n + 9, hi => exact absurd hltm (by omega)
  intro o ho fr u own hsame hsn hla hall
  cases (show some _ = some o from ho)
  have q16 : fr.tmps.getD 16 undef = .pointer (some ⟨r, 0, none⟩) := finL (V := (VC5 r N E p)) hall 0 16 (by decide) rfl
  have q17 : fr.tmps.getD 17 undef = .pointer (some ⟨r, 0, none⟩) := finL (V := (VC5 r N E p)) hall 1 17 (by decide) rfl
  have q18 : fr.tmps.getD 18 undef = .pointer (some ⟨r, 0, none⟩) := finL (V := (VC5 r N E p)) hall 2 18 (by decide) rfl
  have q19 : fr.tmps.getD 19 undef = .pointer (some ⟨r, 1, none⟩) := finL (V := (VC5 r N E p)) hall 3 19 (by decide) rfl
  have q20 : fr.tmps.getD 20 undef = .pointer (some ⟨r, 2, none⟩) := finL (V := (VC5 r N E p)) hall 4 20 (by decide) rfl
  have q21 : fr.tmps.getD 21 undef = .int .u64 (E : Int) := finL (V := (VC5 r N E p)) hall 5 21 (by decide) rfl
  have q22 : fr.tmps.getD 22 undef = .agg #[.int .u8 0, .int .u64 (E : Int)] := finL (V := (VC5 r N E p)) hall 6 22 (by decide) rfl
  have q23 : fr.tmps.getD 23 undef = .agg (ocells (p)) := finL (V := (VC5 r N E p)) hall 7 23 (by decide) rfl
  have q24 : fr.tmps.getD 24 undef = .agg (ncell (0, E, p)) := finL (V := (VC5 r N E p)) hall 8 24 (by decide) rfl
  obtain ⟨x25, q25⟩ : ∃ x, fr.tmps.getD 25 undef = x := ⟨_, rfl⟩
  obtain rfl := frame_eq hsame [(16, .pointer (some ⟨r, 0, none⟩)), (17, .pointer (some ⟨r, 0, none⟩)), (18, .pointer (some ⟨r, 0, none⟩)), (19, .pointer (some ⟨r, 1, none⟩)), (20, .pointer (some ⟨r, 2, none⟩)), (21, .int .u64 (E : Int)), (22, .agg #[.int .u8 0, .int .u64 (E : Int)]), (23, .agg (ocells (p))), (24, .agg (ncell (0, E, p))), (25, x25)] (by kernel_rfl) ⟨q16, q17, q18, q19, q20, q21, q22, q23, q24, q25, trivial⟩
  clear hall hsame q25 q16 q17 q18 q19 q20 q21 q22 q23 q24
  simp only [List.foldl, List.setIfInBounds_toArray, List.set_cons_succ, List.set_cons_zero]
  have hb := hsn.below (B := W1.heap.size) (fun _ _ => rfl) (Nat.le_refl _)
  have Ku := Bx.mk (K1.out.trans (hb.mono K1.out.size)); have Ru := Bx.mk (R1.out.below hb)
  clear hb hsn hla ho
  have cp := push_any base u r B E l s Ru.out (0, E, p) PL.out (fun x hx => HT.out x ((Ku.out.mono HB.out).trans hx)) (Nat.le_trans HB.out Ku.out.size) LM.out
  refine ⟨wanted_none rfl, last_call 89 #[.pointer (some ⟨r, 0, none⟩), .agg (ncell (0, E, p))] (by simp only [execOp, Act.eval]; go_simp) ?_⟩
  refine cp.mono ?_
  rintro e w2 ⟨rfl, s2, hR2, hk2, hs2⟩
  refine ⟨_, rfl, ?_⟩
  simp only [Act.put, List.setIfInBounds_toArray]
  have R2 := Bx.mk hR2; have k1 := Bx.mk hk2; have S2 := Bx.mk hs2
  have c2 := er_cellAt hR2.hb 2 _ rfl
  have f2 := er_frozen hR2.hb 2
  have d1 : IntKind.u64.wrap ((E : Int) + 1) = (E : Int) + 1 := by have := EL.out; simp [IntKind.wrap, IntKind.bits, IntKind.signed]; omega
  clear hR2 hk2 hs2 cp
  go_wp2_with fail
  go_ret
  refine ⟨rfl, s2, ?_, ?_, fun k hk => ?_⟩
  · have := rset_end R2.out (E + 1)
    simpa using this
  · exact (((Keep.of_below Ku.out (RaS r s)).trans k1.out (fun _ _ h => h))).trans ((Keep.setCell w2 ⟨r, 2, none⟩ _).mono (S' := RaS r s) (fun j _ h => .inl h)) (fun _ _ h => h)
  · rcases S2.out k hk with h1 | h1
    · exact .inl h1
    · exact .inr (Nat.le_trans Ku.out.size h1)
set_option maxHeartbeats 800000 in
theorem rapp_limit (A : Nat → Addr) (base : Nat) (w : World) (r B E : Nat) (l : List (Nat × Nat × List UInt8)) (s : Value) (hR : RaP base w r B E l s) (p : List UInt8) (hE : Errs w A) (hl : 9223372036854775808 ≤ E) :
    Calls Tryz.prog 17 #[.pointer (some ⟨r, 0, none⟩), hv p] w fun e w' => e = .returned (.iface 282 (.pointer (some (A 3)))) ∧ Below w.heap.size w w' := by
  have kb := er_al (Below.refl w.heap.size w) (.cells (ocells p) 81)
  have E0 := Bx.mk (hE.below kb)
  have hd := hR.below kb
  clear hR hE
  unfold hv
  go_enter Tryz.func17, Tryz.ntmps17
  go_upto_region 1 with (fail)
  change Code.wp _ _ _ _ (w.alloc (.cells (ocells p) 81))
  generalize w.alloc (.cells (ocells p) 81) = W at kb E0 hd ⊢
  have KB := Bx.mk kb; clear kb
  have R0 := Bx.mk hd; clear hd
  go_wp2_with fail
  refine (there_any R0.out).mono ?_
  rintro e W1 ⟨rfl, hb⟩
  have gE : W1.cell? ⟨2, 0, none⟩ = some (.iface 282 (.pointer (some (A 3)))) := (E0.out.below hb).glob 3 (by decide)
  have K1 := Bx.mk (KB.out.trans (hb.mono KB.out.size))
  have c2 := er_cellAt (R0.out.below hb).hb 2 _ rfl
  have f1 : (9223372036854775808 : Int) ≤ (E : Int) := by omega
  clear hb
  go_wp2_with fail
  go_ret
  exact ⟨rfl, K1.out⟩
theorem rgspan_any {base : Nat} {w : World} {r B E : Nat} {l : List (Nat × Nat × List UInt8)} {s : Value} (h : RaP base w r B E l s) : Calls Tryz.prog 28 #[.pointer (some ⟨r, 0, none⟩)] w fun e w' => e = .returned (.agg #[.int .u64 (B : Int), .int .u64 (E : Int)]) ∧ Below w.heap.size w w' := by
  have kb := er_al (Below.refl w.heap.size w) (.cells #[.int .u64 0, .int .u64 0] 54)
  have xN := heap_alloc_new w (.cells #[.int .u64 0, .int .u64 0] 54)
  have h2 := h.below kb
  clear h
  go_enter Tryz.func28, Tryz.ntmps28
  go_upto_region 1 with (fail)
  change Code.wp _ _ _ _ (w.alloc (.cells #[.int .u64 0, .int .u64 0] 54))
  generalize w.alloc (.cells #[.int .u64 0, .int .u64 0] 54) = W at kb xN h2 ⊢
  obtain ⟨N, hN⟩ : ∃ N, N = w.heap.size := ⟨_, rfl⟩
  rw [← hN] at xN ⊢
  have KB := Bx.mk kb; have XN := Bx.mk xN; have R0 := Bx.mk h2; have NL := Bx.mk (show w.heap.size ≤ N by omega)
  clear kb xN h2 hN
  go_wp2_with fail
  refine (there_any R0.out).mono ?_
  rintro e W1 ⟨rfl, hb⟩
  have K1 := Bx.mk (KB.out.trans (hb.mono KB.out.size)); have X1 := Bx.mk ((hb.block _ (Array.getElem?_eq_some_iff.1 XN.out).1).trans XN.out)
  have c1 := er_cellAt (R0.out.below hb).hb 1 _ rfl
  have c2 := er_cellAt (R0.out.below hb).hb 2 _ rfl
  have RG : Bx (W1.rangeAt r 1 [.int .u64 (B : Int), .int .u64 (E : Int)]) := ⟨fun j v hv => by
    match j, hv with
    | 0, hv => cases hv; exact c1
    | 1, hv => cases hv; exact c2⟩
  clear hb KB XN c1 c2
  go_wp2_with (first | (guard_target =~ wpList _ _ _ (⟨some 10, _, _, _, _, _⟩ :: _) _ _; refine wpList_load_mid rfl 54 (.tmp 9) rfl r (1) rfl [.int .u64 (B : Int), .int .u64 (E : Int)] _ RG.out Tryz.underlying54 rfl sizeS ?_) | (guard_target =~ wpList _ _ _ (⟨none, _, _, _, _, _⟩ :: _) _ _; refine wpList_store_row rfl 54 (.tmp 2) (.tmp 10) rfl N #[.int .u64 (B : Int), .int .u64 (E : Int)] rfl rfl _ _ X1.out sizeS rfl (by simp [Value.oneCell']) ?_))
  exact bodyPost_ret (results_cell_row rfl _ _ N _ #[.int .u64 (B : Int), .int .u64 (E : Int)] _ _ rfl (setRow_heap _ _ _ _ _ _ X1.out) Tryz.underlying54 rfl sizeS) rfl ⟨rfl, below_setRow K1.out NL.out _⟩
end Go.Proofs.YtgbafjmklefoiaaGreatDoor
