/- cartularylaw10.EmitNone walked. -/
import Derived.Test.YtbhcaalelfaceaaDoorEmG
namespace Go.Proofs.YtbhcaalelfaceaaDoor
set_option maxRecDepth 100000
open Go.RowKit
def VJ8 (A : Nat → Addr) (_N G t : Nat) (p : List UInt8) (vd : Value) (oi : Nat) (v : Value) (_own : Nat → Option Nat) (_w : World) : Prop :=
  match oi with
  | 0 => v = .int .i64 (t : Int)
  | 1 => v = .pointer (some ⟨G, t, none⟩)
  | 2 => v = vd
  | 3 => v = .agg (ocells (p))
  | 4 => v = .tuple #[.slice none 0 0, .iface 124 (.pointer (some (A 0)))]
  | 5 => v = .tuple #[.slice none 0 0, .iface 124 (.pointer (some (A 0)))]
  | 6 => v = .slice none 0 0
  | 7 => v = .iface 124 (.pointer (some (A 0)))
  | 8 => v = .slice none 0 0
  | 9 => v = .iface 124 (.pointer (some (A 0)))
  | _ => True
def VJ8mk : Nat → Option Nat := fun _ => none
theorem VJ8_mono (A : Nat → Addr) (N G t : Nat) (p : List UInt8) (vd : Value) (oi oj : Nat) (v : Value) (own : Nat → Option Nat) (w : World) (own' : Nat → Option Nat) (w' : World) (hij : oi ≠ oj)   (h : VJ8 A N G t p vd oj v own w) (_r : Rel VJ8mk oi own w own' w') : VJ8 A N G t p vd oj v own' w' := by
  unfold VJ8 at h ⊢
  split at h
  · exact h
  · exact h
  · exact h
  · exact h
  · exact h
  · exact h
  · exact h
  · exact h
  · exact h
  · exact h
  · trivial

def VJ9 (A : Nat → Addr) (G t : Nat) (vd : Value) (oi : Nat) (v : Value) (_own : Nat → Option Nat) (_w : World) : Prop :=
  match oi with
  | 0 => v = .iface 124 (.pointer (some (A 0)))
  | 1 => v = .bool true
  | 2 => v = .bool false
  | 3 => v = .bool false
  | 4 => v = .slice none 0 0
  | 5 => v = .int .i64 0
  | 6 => v = .bool false
  | 7 => v = .bool false
  | 8 => v = .bool false
  | 9 => v = .int .i64 (t : Int)
  | 10 => v = .pointer (some ⟨G, t, none⟩)
  | 11 => v = vd
  | 12 => v = .int .u64 0
  | 13 => v = .bool false
  | 14 => v = .bool false
  | 15 => v = .bool false
  | 16 => v = .int .i64 (t : Int)
  | 17 => v = .pointer (some ⟨G, t, none⟩)
  | 18 => v = vd
  | 19 => v = .agg (ocells (zero32'))
  | 20 => v = .agg (ocells (zero32'))
  | 21 => v = .bool false
  | 22 => v = .bool false
  | 23 => v = .bool false
  | 24 => v = .int .i64 (t : Int)
  | 25 => v = .pointer (some ⟨G, t, none⟩)
  | 26 => v = vd
  | 27 => (∃ a c, v = .slice a 0 c)
  | 28 => v = .int .i64 0
  | 29 => v = .bool false
  | 30 => v = .bool false
  | _ => True
def VJ9mk : Nat → Option Nat := fun _ => none
theorem VJ9_mono (A : Nat → Addr) (G t : Nat) (vd : Value) (oi oj : Nat) (v : Value) (own : Nat → Option Nat) (w : World) (own' : Nat → Option Nat) (w' : World) (hij : oi ≠ oj)   (h : VJ9 A G t vd oj v own w) (_r : Rel VJ9mk oi own w own' w') : VJ9 A G t vd oj v own' w' := by
  unfold VJ9 at h ⊢
  split at h
  · exact h
  · exact h
  · exact h
  · exact h
  · exact h
  · exact h
  · exact h
  · exact h
  · exact h
  · exact h
  · exact h
  · exact h
  · exact h
  · exact h
  · exact h
  · exact h
  · exact h
  · exact h
  · exact h
  · exact h
  · exact h
  · exact h
  · exact h
  · exact h
  · exact h
  · exact h
  · exact h
  · exact h
  · exact h
  · exact h
  · exact h
  · trivial

set_option maxHeartbeats 3200000 in
theorem enone_any (A : Nat → Addr) (w : World) (p : List UInt8) (hp : p.length = 32) (h : Em A w) : Calls Tryd.prog 4 #[hv p] w fun e w' => e = .returned (.bool true) ∧ Below w.heap.size w w' := by
  have kb := er_al (Below.refl w.heap.size w) (.cells (ocells p) 33)
  have xN := heap_alloc_new w (.cells (ocells p) 33)
  have hE0 := h.below kb
  unfold hv
  go_enter Tryd.func4, Tryd.ntmps4
  go_upto_region 1 with (fail)
  change Code.wp _ _ _ _ (w.alloc (.cells (ocells p) 33))
  generalize w.alloc (.cells (ocells p) 33) = W0 at kb xN hE0 ⊢
  obtain ⟨N, hN⟩ : ∃ N, N = w.heap.size := ⟨_, rfl⟩
  rw [← hN] at xN ⊢
  have KB := Bx.mk kb; have HH := Bx.mk hE0; have XN0 := Bx.mk xN; have PL := Bx.mk hp
  have HA := Bx.mk (alive10_any A W0 hE0)
  clear kb xN hE0 hp h hN
  go_wp2_with fail
  refine HA.out.mono ?_
  rintro e w2 ⟨rfl, hb1⟩
  have KW2 := Bx.mk (KB.out.trans (hb1.mono KB.out.size)); have HH2 := Bx.mk (HH.out.below hb1); have XN1 := Bx.mk ((hb1.block _ (Array.getElem?_eq_some_iff.1 XN0.out).1).trans XN0.out)
  clear HA hb1 HH XN0
  go_upto_block 0 with (fail)
  have k4 : Below w2.heap.size w2 ((w2.alloc (.cells #[.bool false, .int .u64 0, .slice none 0 0] 43)).alloc (.cells #[.pointer none, .pointer (some ⟨w2.heap.size, 0, none⟩)] 44)) :=
    ((Below.refl _ _).alloc (Nat.le_refl _) _).alloc (by simp) _
  have p4 : ((w2.alloc (.cells #[.bool false, .int .u64 0, .slice none 0 0] 43)).alloc (.cells #[.pointer none, .pointer (some ⟨w2.heap.size, 0, none⟩)] 44)).heap[w2.heap.size]? = some (.cells #[.bool false, .int .u64 0, .slice none 0 0] 43 (0, 0)) := by
    rw [Below.heap_alloc _ _ _ (by simp)]; exact heap_alloc_new _ _
  have l4 : ((w2.alloc (.cells #[.bool false, .int .u64 0, .slice none 0 0] 43)).alloc (.cells #[.pointer none, .pointer (some ⟨w2.heap.size, 0, none⟩)] 44)).heap[w2.heap.size + 1]? = some (.cells #[.pointer none, .pointer (some ⟨w2.heap.size, 0, none⟩)] 44 (0, 0)) := by
    have := heap_alloc_new (w2.alloc (.cells #[.bool false, .int .u64 0, .slice none 0 0] 43)) (.cells #[.pointer none, .pointer (some ⟨w2.heap.size, 0, none⟩)] 44)
    simpa using this
  have kw4 := KW2.out.trans (k4.mono KW2.out.size)
  have hh4 := HH2.out.below k4
  have xn4 := (k4.block _ (Array.getElem?_eq_some_iff.1 XN1.out).1).trans XN1.out
  generalize ((w2.alloc (.cells #[.bool false, .int .u64 0, .slice none 0 0] 43)).alloc (.cells #[.pointer none, .pointer (some ⟨w2.heap.size, 0, none⟩)] 44)) = W at k4 p4 l4 kw4 hh4 xn4 ⊢
  generalize w2.heap.size = z at k4 p4 l4 ⊢
  obtain ⟨G, hG⟩ : ∃ G, G = z + 1 := ⟨_, rfl⟩
  rw [← hG] at l4 ⊢
  have P4 := Bx.mk p4; have L4 := Bx.mk l4; have KW := Bx.mk kw4; have HE4 := Bx.mk hh4; have XN := Bx.mk xn4
  have HE : Bx (∀ u, Below W.heap.size W u → Errs u A) := ⟨fun u hu => (HE4.out.below hu).hs.err⟩
  clear k4 p4 l4 kw4 hh4 xn4 hG KW2 HH2 XN1 HE4
  go_wp2_with fail
  go_loopw [5] (fun i wr => ∃ t : Nat, t ≤ 2 ∧ i = .int .i64 (t : Int) ∧ Below W.heap.size W wr) (fun i _ => 2 - (intOf i).toNat)
  case atStart => exact ⟨0, by omega, rfl, Below.refl _ _⟩
  case round =>
    obtain ⟨t, ht, rfl, hb⟩ := hrel
    have HB := Bx.mk hb; clear hb
    by_cases hlt : t < 2
    · have hzW : z < W.heap.size := (Array.getElem?_eq_some_iff.1 P4.out).1
      have hzG : G < W.heap.size := (Array.getElem?_eq_some_iff.1 L4.out).1
      have hdead : ∃ v, DeadB W v ∧ (#[Value.pointer none, Value.pointer (some ⟨z, 0, none⟩)] : Array Value)[t]? = some v := by
        match t, hlt with
        | 0, _ => exact ⟨_, .inl rfl, rfl⟩
        | 1, _ => exact ⟨_, .inr ⟨z, rfl, P4.out⟩, rfl⟩
      obtain ⟨vd, hdv, hvt⟩ := hdead
      have HLD : Bx (∀ w', Below W.heap.size W w' → w'.cell? ⟨G, t, none⟩ = some vd) := ⟨fun w' hw' => cell_at ((hw'.block _ hzG).trans L4.out) t _ hvt⟩
      have HDD : Bx (∀ w', Below W.heap.size W w' → DeadB w' vd) := ⟨fun w' hw' => hdv.below hw'⟩
      have XNr := Bx.mk ((HB.out.block _ (Array.getElem?_eq_some_iff.1 XN.out).1).trans XN.out)
      have TL := Bx.mk hlt
      clear hdv hvt hzW hzG ht
      go_upto_region 8 with (fail)
      refine wp_region_own8 (n := 57) VJ8mk (fun _ => none) (VJ8 A N G t p vd) (by kernel_rfl) (by kernel_rfl) rfl (fun _ _ => rfl) (fun j i hj _ => by cases hj) ?_ ?_ ?_
      · exact fun oi oj v own w own' w' hij _ h r => VJ8_mono A N G t p vd oi oj v own w own' w' hij h r
      · intro oi o hi f u own hsame hsn hfr hlate hkeep8 hdep
        have hkeep := hkeep8 _ (.inl rfl)
        have hb6 := hsn.below (B := wr.heap.size) (fun _ _ => rfl) (Nat.le_refl _)
        have hbw := HB.out.trans (hb6.mono HB.out.size)
        match oi, hi with
        | 0, hi =>
          cases (show some _ = some o from hi)
          have e5 : f.tmps.getD 5 undef = .int .i64 (t : Int) := hsame.slot 5 (fun i o h => invB2_not 5 (by kernel_rfl) h)
          clear hdep hsame hi hlate hfr hkeep
          exact .inl ⟨wanted_none rfl, showsO_move hsn rfl _ rfl e5⟩
        | 1, hi =>
          cases (show some _ = some o from hi)
          have e4 : f.tmps.getD 4 undef = .pointer (some ⟨G, 0, none⟩) := hsame.slot 4 (fun i o h => invB2_not 4 (by kernel_rfl) h)
          have e19 : (f.tmps.getD 19 undef) = .int .i64 (t : Int) := depO (V := (VJ8 A N G t p vd)) hdep 0 19 (by kernel_rfl) (by kernel_rfl)
          clear hdep hsame hi hlate hfr hkeep
          have f1 : ¬ (2 : Int) ≤ (t : Int) := by have := TL.out; omega
          have f2 : (t : Int) < (2 : Int) := by have := TL.out; omega
          exact .inl ⟨wanted_none rfl, showsO_pure hsn rfl (.pointer (some ⟨G, t, none⟩)) (by simp only [execOp, Act.eval]; go_simp) rfl⟩
        | 2, hi =>
          cases (show some _ = some o from hi)
          have e20 : (f.tmps.getD 20 undef) = .pointer (some ⟨G, t, none⟩) := depO (V := (VJ8 A N G t p vd)) hdep 1 20 (by kernel_rfl) (by kernel_rfl)
          clear hdep hsame hi hlate hfr hkeep
          have c21 := HLD.out u (HB.out.trans (hb6.mono HB.out.size))
          exact .inl ⟨wanted_none rfl, showsO_pure hsn rfl (vd) (by simp only [execOp, Act.eval]; go_simp) rfl⟩
        | 3, hi =>
          cases (show some _ = some o from hi)
          have e1 : f.tmps.getD 1 undef = .pointer (some ⟨N, 0, none⟩) := hsame.slot 1 (fun i o h => invB2_not 1 (by kernel_rfl) h)
          clear hdep hsame hi hlate hfr hkeep
          exact .inl ⟨wanted_none rfl, showsO_row hsn rfl 33 (.tmp 1) rfl N e1 (ocells (p)) ((hb6.block _ (Array.getElem?_eq_some_iff.1 XNr.out).1).trans XNr.out) underH rfl (hszL PL.out) rfl⟩
        | 4, hi =>
          cases (show some _ = some o from hi)
          have e21 : (f.tmps.getD 21 undef) = vd := depO (V := (VJ8 A N G t p vd)) hdep 2 21 (by kernel_rfl) (by kernel_rfl)
          have e22 : (f.tmps.getD 22 undef) = .agg (ocells (p)) := depO (V := (VJ8 A N G t p vd)) hdep 3 22 (by kernel_rfl) (by kernel_rfl)
          clear hdep hsame hi hlate hfr hkeep
          have c := add_dead A u vd (HDD.out u hbw) p (HE.out u hbw)
          exact .inl ⟨wanted_none rfl, showsO_call1 hsn rfl 10 #[vd, .agg (ocells (p))] (by simp only [execOp, Act.eval]; go_simp) (c) (fun _ => rfl)⟩
        | 5, hi =>
          cases (show some _ = some o from hi)
          have e23 : (f.tmps.getD 23 undef) = .tuple #[.slice none 0 0, .iface 124 (.pointer (some (A 0)))] := depO (V := (VJ8 A N G t p vd)) hdep 4 23 (by kernel_rfl) (by kernel_rfl)
          clear hdep hsame hi hlate hfr hkeep
          exact .inl ⟨wanted_none rfl, showsO_move hsn rfl _ rfl e23⟩
        | 6, hi =>
          cases (show some _ = some o from hi)
          have e18 : (f.tmps.getD 18 undef) = .tuple #[.slice none 0 0, .iface 124 (.pointer (some (A 0)))] := depO (V := (VJ8 A N G t p vd)) hdep 5 18 (by kernel_rfl) (by kernel_rfl)
          clear hdep hsame hi hlate hfr hkeep
          exact .inl ⟨wanted_none rfl, showsO_pure hsn rfl (.slice none 0 0) (by simp only [execOp, Act.eval]; go_simp) rfl⟩
        | 7, hi =>
          cases (show some _ = some o from hi)
          have e18 : (f.tmps.getD 18 undef) = .tuple #[.slice none 0 0, .iface 124 (.pointer (some (A 0)))] := depO (V := (VJ8 A N G t p vd)) hdep 5 18 (by kernel_rfl) (by kernel_rfl)
          clear hdep hsame hi hlate hfr hkeep
          exact .inl ⟨wanted_none rfl, showsO_pure hsn rfl (.iface 124 (.pointer (some (A 0)))) (by simp only [execOp, Act.eval]; go_simp) rfl⟩
        | 8, hi =>
          cases (show some _ = some o from hi)
          have e24 : (f.tmps.getD 24 undef) = .slice none 0 0 := depO (V := (VJ8 A N G t p vd)) hdep 6 24 (by kernel_rfl) (by kernel_rfl)
          clear hdep hsame hi hlate hfr hkeep
          exact .inl ⟨wanted_none rfl, showsO_assign hsn rfl _ rfl e24⟩
        | 9, hi =>
          cases (show some _ = some o from hi)
          have e25 : (f.tmps.getD 25 undef) = .iface 124 (.pointer (some (A 0))) := depO (V := (VJ8 A N G t p vd)) hdep 7 25 (by kernel_rfl) (by kernel_rfl)
          clear hdep hsame hi hlate hfr hkeep
          exact .inl ⟨wanted_none rfl, showsO_assign hsn rfl _ rfl e25⟩
        | n + 10, hi => exact absurd hi (by simp)
      intro f u8 own hsame hsn hall
      have q19 : f.tmps.getD 19 undef = .int .i64 (t : Int) := finO (V := (VJ8 A N G t p vd)) hall 0 19 rfl
      have q20 : f.tmps.getD 20 undef = .pointer (some ⟨G, t, none⟩) := finO (V := (VJ8 A N G t p vd)) hall 1 20 rfl
      have q21 : f.tmps.getD 21 undef = vd := finO (V := (VJ8 A N G t p vd)) hall 2 21 rfl
      have q22 : f.tmps.getD 22 undef = .agg (ocells (p)) := finO (V := (VJ8 A N G t p vd)) hall 3 22 rfl
      have q23 : f.tmps.getD 23 undef = .tuple #[.slice none 0 0, .iface 124 (.pointer (some (A 0)))] := finO (V := (VJ8 A N G t p vd)) hall 4 23 rfl
      have q18 : f.tmps.getD 18 undef = .tuple #[.slice none 0 0, .iface 124 (.pointer (some (A 0)))] := finO (V := (VJ8 A N G t p vd)) hall 5 18 rfl
      have q24 : f.tmps.getD 24 undef = .slice none 0 0 := finO (V := (VJ8 A N G t p vd)) hall 6 24 rfl
      have q25 : f.tmps.getD 25 undef = .iface 124 (.pointer (some (A 0))) := finO (V := (VJ8 A N G t p vd)) hall 7 25 rfl
      have q6 : f.tmps.getD 6 undef = .slice none 0 0 := finO (V := (VJ8 A N G t p vd)) hall 8 6 rfl
      have q7 : f.tmps.getD 7 undef = .iface 124 (.pointer (some (A 0))) := finO (V := (VJ8 A N G t p vd)) hall 9 7 rfl
      obtain rfl := frame_eq hsame [(19, .int .i64 (t : Int)), (20, .pointer (some ⟨G, t, none⟩)), (21, vd), (22, .agg (ocells (p))), (23, .tuple #[.slice none 0 0, .iface 124 (.pointer (some (A 0)))]), (18, .tuple #[.slice none 0 0, .iface 124 (.pointer (some (A 0)))]), (24, .slice none 0 0), (25, .iface 124 (.pointer (some (A 0)))), (6, .slice none 0 0), (7, .iface 124 (.pointer (some (A 0))))] (by kernel_rfl) ⟨q19, q20, q21, q22, q23, q18, q24, q25, q6, q7, trivial⟩
      clear hall hsame q19 q20 q21 q22 q23 q18 q24 q25 q6 q7
      simp only [List.foldl, List.setIfInBounds_toArray, List.set_cons_succ, List.set_cons_zero]
      have hb := hsn.below (B := wr.heap.size) (fun _ _ => rfl) (Nat.le_refl _)
      have HB8 := Bx.mk (HB.out.trans (hb.mono HB.out.size))
      clear hb hsn XNr
      go_upto_region 9 with (fail)
      refine wp_region_seq8 (n := 57) VJ9mk (fun _ => none) (VJ9 A G t vd) (by kernel_rfl) rfl (fun _ _ => rfl) (fun j i hj _ => by cases hj) ?_ ?_ ?_
      · exact fun oi oj v own w own' w' hij h r => VJ9_mono A G t vd oi oj v own w own' w' (by omega)  h r
      · intro oi o hi f u own hsame hsn hfr hlate hkeep8 hdep
        have hkeep := hkeep8 _ (Nat.le_refl _)
        have hb6 := hsn.below (B := u8.heap.size) (fun _ _ => rfl) (Nat.le_refl _)
        have hbw := HB8.out.trans (hb6.mono HB8.out.size)
        match oi, hi with
        | 0, hi =>
          cases (show some _ = some o from hi)
          have e7 : f.tmps.getD 7 undef = .iface 124 (.pointer (some (A 0))) := hlate 7 (earlyS (by kernel_rfl))
          clear hdep hsame hi hlate hfr hkeep
          exact .inl ⟨wanted_none rfl, showsO_move hsn rfl _ rfl e7⟩
        | 1, hi =>
          cases (show some _ = some o from hi)
          have e26 : (f.tmps.getD 26 undef) = .iface 124 (.pointer (some (A 0))) := depS (V := (VJ9 A G t vd)) hdep 0 26 (by decide) (by kernel_rfl)
          clear hdep hsame hi hlate hfr hkeep
          have c := isE_any (HE.out u hbw) (ErrV.plain 0 (by decide)) 1
          exact .inl ⟨wanted_none rfl, showsO_call1 hsn rfl 17 #[.iface 124 (.pointer (some (A 0))), .int .i64 1] (by simp only [execOp, Act.eval]; go_simp) (c) (fun _ => rfl)⟩
        | 2, hi =>
          cases (show some _ = some o from hi)
          have e27 : (f.tmps.getD 27 undef) = .bool true := depS (V := (VJ9 A G t vd)) hdep 1 27 (by decide) (by kernel_rfl)
          clear hdep hsame hi hlate hfr hkeep
          exact .inl ⟨wanted_none rfl, showsO_pure hsn rfl (.bool false) (by simp only [execOp, Act.eval]; go_simp) rfl⟩
        | 3, hi =>
          cases (show some _ = some o from hi)
          have e28 : (f.tmps.getD 28 undef) = .bool false := depS (V := (VJ9 A G t vd)) hdep 2 28 (by decide) (by kernel_rfl)
          clear hdep hsame hi hlate hfr hkeep
          exact .inl ⟨wanted_none rfl, showsO_move hsn rfl _ rfl e28⟩
        | 4, hi =>
          cases (show some _ = some o from hi)
          have e6 : f.tmps.getD 6 undef = .slice none 0 0 := hlate 6 (earlyS (by kernel_rfl))
          have eg : f.tmps.getD 29 undef = .bool false := depS (V := (VJ9 A G t vd)) hdep 3 29 (by decide) (by kernel_rfl)
          clear hdep hsame hi hlate hfr hkeep
          exact .inl ⟨wanted_of 3 rfl eg (by kernel_rfl), showsO_move hsn rfl _ rfl e6⟩
        | 5, hi =>
          cases (show some _ = some o from hi)
          have e30 : (f.tmps.getD 30 undef) = .slice none 0 0 := depS (V := (VJ9 A G t vd)) hdep 4 30 (by decide) (by kernel_rfl)
          have eg : f.tmps.getD 29 undef = .bool false := depS (V := (VJ9 A G t vd)) hdep 3 29 (by decide) (by kernel_rfl)
          clear hdep hsame hi hlate hfr hkeep
          exact .inl ⟨wanted_of 3 rfl eg (by kernel_rfl), showsO_pure hsn rfl (.int .i64 0) (by simp only [execOp, Act.eval]; go_simp) rfl⟩
        | 6, hi =>
          cases (show some _ = some o from hi)
          have e31 : (f.tmps.getD 31 undef) = .int .i64 0 := depS (V := (VJ9 A G t vd)) hdep 5 31 (by decide) (by kernel_rfl)
          have eg : f.tmps.getD 29 undef = .bool false := depS (V := (VJ9 A G t vd)) hdep 3 29 (by decide) (by kernel_rfl)
          clear hdep hsame hi hlate hfr hkeep
          exact .inl ⟨wanted_of 3 rfl eg (by kernel_rfl), showsO_pure hsn rfl (.bool false) (by simp only [execOp, Act.eval]; go_simp) rfl⟩
        | 7, hi =>
          cases (show some _ = some o from hi)
          have e29 : (f.tmps.getD 29 undef) = .bool false := depS (V := (VJ9 A G t vd)) hdep 3 29 (by decide) (by kernel_rfl)
          have e32 : (f.tmps.getD 32 undef) = .bool false := depS (V := (VJ9 A G t vd)) hdep 6 32 (by decide) (by kernel_rfl)
          clear hdep hsame hi hlate hfr hkeep
          exact .inl ⟨wanted_none rfl, showsO_pure hsn rfl (.bool false) (by simp only [execOp, Act.eval]; go_simp) rfl⟩
        | 8, hi =>
          cases (show some _ = some o from hi)
          have e33 : (f.tmps.getD 33 undef) = .bool false := depS (V := (VJ9 A G t vd)) hdep 7 33 (by decide) (by kernel_rfl)
          clear hdep hsame hi hlate hfr hkeep
          exact .inl ⟨wanted_none rfl, showsO_move hsn rfl _ rfl e33⟩
        | 9, hi =>
          cases (show some _ = some o from hi)
          have e5 : f.tmps.getD 5 undef = .int .i64 (t : Int) := hlate 5 (earlyS (by kernel_rfl))
          have eg : f.tmps.getD 34 undef = .bool false := depS (V := (VJ9 A G t vd)) hdep 8 34 (by decide) (by kernel_rfl)
          clear hdep hsame hi hlate hfr hkeep
          exact .inl ⟨wanted_of 8 rfl eg (by kernel_rfl), showsO_move hsn rfl _ rfl e5⟩
        | 10, hi =>
          cases (show some _ = some o from hi)
          have e4 : f.tmps.getD 4 undef = .pointer (some ⟨G, 0, none⟩) := hlate 4 (earlyS (by kernel_rfl))
          have e35 : (f.tmps.getD 35 undef) = .int .i64 (t : Int) := depS (V := (VJ9 A G t vd)) hdep 9 35 (by decide) (by kernel_rfl)
          have eg : f.tmps.getD 34 undef = .bool false := depS (V := (VJ9 A G t vd)) hdep 8 34 (by decide) (by kernel_rfl)
          clear hdep hsame hi hlate hfr hkeep
          have f1 : ¬ (2 : Int) ≤ (t : Int) := by have := TL.out; omega
          have f2 : (t : Int) < (2 : Int) := by have := TL.out; omega
          exact .inl ⟨wanted_of 8 rfl eg (by kernel_rfl), showsO_pure hsn rfl (.pointer (some ⟨G, t, none⟩)) (by simp only [execOp, Act.eval]; go_simp) rfl⟩
        | 11, hi =>
          cases (show some _ = some o from hi)
          have e36 : (f.tmps.getD 36 undef) = .pointer (some ⟨G, t, none⟩) := depS (V := (VJ9 A G t vd)) hdep 10 36 (by decide) (by kernel_rfl)
          have eg : f.tmps.getD 34 undef = .bool false := depS (V := (VJ9 A G t vd)) hdep 8 34 (by decide) (by kernel_rfl)
          clear hdep hsame hi hlate hfr hkeep
          have c37 := HLD.out u (HB8.out.trans (hb6.mono HB8.out.size))
          exact .inl ⟨wanted_of 8 rfl eg (by kernel_rfl), showsO_pure hsn rfl (vd) (by simp only [execOp, Act.eval]; go_simp) rfl⟩
        | 12, hi =>
          cases (show some _ = some o from hi)
          have e37 : (f.tmps.getD 37 undef) = vd := depS (V := (VJ9 A G t vd)) hdep 11 37 (by decide) (by kernel_rfl)
          have eg : f.tmps.getD 34 undef = .bool false := depS (V := (VJ9 A G t vd)) hdep 8 34 (by decide) (by kernel_rfl)
          clear hdep hsame hi hlate hfr hkeep
          have c := (size_dead u vd (HDD.out u hbw)).mono fun e w' h => (⟨h.1, h.2 ▸ Below.refl _ _⟩ : e = .returned (.int .u64 0) ∧ Below u.heap.size u w')
          exact .inl ⟨wanted_of 8 rfl eg (by kernel_rfl), showsO_call1 hsn rfl 12 #[vd] (by simp only [execOp, Act.eval]; go_simp) (c) (fun _ => rfl)⟩
        | 13, hi =>
          cases (show some _ = some o from hi)
          have e38 : (f.tmps.getD 38 undef) = .int .u64 0 := depS (V := (VJ9 A G t vd)) hdep 12 38 (by decide) (by kernel_rfl)
          have eg : f.tmps.getD 34 undef = .bool false := depS (V := (VJ9 A G t vd)) hdep 8 34 (by decide) (by kernel_rfl)
          clear hdep hsame hi hlate hfr hkeep
          exact .inl ⟨wanted_of 8 rfl eg (by kernel_rfl), showsO_pure hsn rfl (.bool false) (by simp only [execOp, Act.eval]; go_simp) rfl⟩
        | 14, hi =>
          cases (show some _ = some o from hi)
          have e34 : (f.tmps.getD 34 undef) = .bool false := depS (V := (VJ9 A G t vd)) hdep 8 34 (by decide) (by kernel_rfl)
          have e39 : (f.tmps.getD 39 undef) = .bool false := depS (V := (VJ9 A G t vd)) hdep 13 39 (by decide) (by kernel_rfl)
          clear hdep hsame hi hlate hfr hkeep
          exact .inl ⟨wanted_none rfl, showsO_pure hsn rfl (.bool false) (by simp only [execOp, Act.eval]; go_simp) rfl⟩
        | 15, hi =>
          cases (show some _ = some o from hi)
          have e40 : (f.tmps.getD 40 undef) = .bool false := depS (V := (VJ9 A G t vd)) hdep 14 40 (by decide) (by kernel_rfl)
          clear hdep hsame hi hlate hfr hkeep
          exact .inl ⟨wanted_none rfl, showsO_move hsn rfl _ rfl e40⟩
        | 16, hi =>
          cases (show some _ = some o from hi)
          have e5 : f.tmps.getD 5 undef = .int .i64 (t : Int) := hlate 5 (earlyS (by kernel_rfl))
          have eg : f.tmps.getD 41 undef = .bool false := depS (V := (VJ9 A G t vd)) hdep 15 41 (by decide) (by kernel_rfl)
          clear hdep hsame hi hlate hfr hkeep
          exact .inl ⟨wanted_of 15 rfl eg (by kernel_rfl), showsO_move hsn rfl _ rfl e5⟩
        | 17, hi =>
          cases (show some _ = some o from hi)
          have e4 : f.tmps.getD 4 undef = .pointer (some ⟨G, 0, none⟩) := hlate 4 (earlyS (by kernel_rfl))
          have e42 : (f.tmps.getD 42 undef) = .int .i64 (t : Int) := depS (V := (VJ9 A G t vd)) hdep 16 42 (by decide) (by kernel_rfl)
          have eg : f.tmps.getD 41 undef = .bool false := depS (V := (VJ9 A G t vd)) hdep 15 41 (by decide) (by kernel_rfl)
          clear hdep hsame hi hlate hfr hkeep
          have f1 : ¬ (2 : Int) ≤ (t : Int) := by have := TL.out; omega
          have f2 : (t : Int) < (2 : Int) := by have := TL.out; omega
          exact .inl ⟨wanted_of 15 rfl eg (by kernel_rfl), showsO_pure hsn rfl (.pointer (some ⟨G, t, none⟩)) (by simp only [execOp, Act.eval]; go_simp) rfl⟩
        | 18, hi =>
          cases (show some _ = some o from hi)
          have e43 : (f.tmps.getD 43 undef) = .pointer (some ⟨G, t, none⟩) := depS (V := (VJ9 A G t vd)) hdep 17 43 (by decide) (by kernel_rfl)
          have eg : f.tmps.getD 41 undef = .bool false := depS (V := (VJ9 A G t vd)) hdep 15 41 (by decide) (by kernel_rfl)
          clear hdep hsame hi hlate hfr hkeep
          have c44 := HLD.out u (HB8.out.trans (hb6.mono HB8.out.size))
          exact .inl ⟨wanted_of 15 rfl eg (by kernel_rfl), showsO_pure hsn rfl (vd) (by simp only [execOp, Act.eval]; go_simp) rfl⟩
        | 19, hi =>
          cases (show some _ = some o from hi)
          have e44 : (f.tmps.getD 44 undef) = vd := depS (V := (VJ9 A G t vd)) hdep 18 44 (by decide) (by kernel_rfl)
          have eg : f.tmps.getD 41 undef = .bool false := depS (V := (VJ9 A G t vd)) hdep 15 41 (by decide) (by kernel_rfl)
          clear hdep hsame hi hlate hfr hkeep
          have c := root_dead u vd (HDD.out u hbw)
          exact .inl ⟨wanted_of 15 rfl eg (by kernel_rfl), showsO_call1 hsn rfl 14 #[vd] (by simp only [execOp, Act.eval]; go_simp) (c) (fun _ => rfl)⟩
        | 20, hi =>
          cases (show some _ = some o from hi)
          have eg : f.tmps.getD 41 undef = .bool false := depS (V := (VJ9 A G t vd)) hdep 15 41 (by decide) (by kernel_rfl)
          clear hdep hsame hi hlate hfr hkeep
          exact .inl ⟨wanted_of 15 rfl eg (by kernel_rfl), showsO_build hsn rfl 33 #[] rfl (ocells zero32') (by simp only [List.map_toArray, List.map_nil]; exact built_zeroH) rfl⟩
        | 21, hi =>
          cases (show some _ = some o from hi)
          have e45 : (f.tmps.getD 45 undef) = .agg (ocells (zero32')) := depS (V := (VJ9 A G t vd)) hdep 19 45 (by decide) (by kernel_rfl)
          have e46 : (f.tmps.getD 46 undef) = .agg (ocells (zero32')) := depS (V := (VJ9 A G t vd)) hdep 20 46 (by decide) (by kernel_rfl)
          have eg : f.tmps.getD 41 undef = .bool false := depS (V := (VJ9 A G t vd)) hdep 15 41 (by decide) (by kernel_rfl)
          clear hdep hsame hi hlate hfr hkeep
          have q := fun u => hv_neq u (zero32') (zero32') (by decide) (by decide)
          simp only [hv_agg, beq_self_eq_true, Bool.not_true] at q
          exact .inl ⟨wanted_of 15 rfl eg (by kernel_rfl), showsO_pure hsn rfl (.bool false) (by simp only [execOp, Act.eval]; go_simp) rfl⟩
        | 22, hi =>
          cases (show some _ = some o from hi)
          have e41 : (f.tmps.getD 41 undef) = .bool false := depS (V := (VJ9 A G t vd)) hdep 15 41 (by decide) (by kernel_rfl)
          have e47 : (f.tmps.getD 47 undef) = .bool false := depS (V := (VJ9 A G t vd)) hdep 21 47 (by decide) (by kernel_rfl)
          clear hdep hsame hi hlate hfr hkeep
          exact .inl ⟨wanted_none rfl, showsO_pure hsn rfl (.bool false) (by simp only [execOp, Act.eval]; go_simp) rfl⟩
        | 23, hi =>
          cases (show some _ = some o from hi)
          have e48 : (f.tmps.getD 48 undef) = .bool false := depS (V := (VJ9 A G t vd)) hdep 22 48 (by decide) (by kernel_rfl)
          clear hdep hsame hi hlate hfr hkeep
          exact .inl ⟨wanted_none rfl, showsO_move hsn rfl _ rfl e48⟩
        | 24, hi =>
          cases (show some _ = some o from hi)
          have e5 : f.tmps.getD 5 undef = .int .i64 (t : Int) := hlate 5 (earlyS (by kernel_rfl))
          have eg : f.tmps.getD 49 undef = .bool false := depS (V := (VJ9 A G t vd)) hdep 23 49 (by decide) (by kernel_rfl)
          clear hdep hsame hi hlate hfr hkeep
          exact .inl ⟨wanted_of 23 rfl eg (by kernel_rfl), showsO_move hsn rfl _ rfl e5⟩
        | 25, hi =>
          cases (show some _ = some o from hi)
          have e4 : f.tmps.getD 4 undef = .pointer (some ⟨G, 0, none⟩) := hlate 4 (earlyS (by kernel_rfl))
          have e50 : (f.tmps.getD 50 undef) = .int .i64 (t : Int) := depS (V := (VJ9 A G t vd)) hdep 24 50 (by decide) (by kernel_rfl)
          have eg : f.tmps.getD 49 undef = .bool false := depS (V := (VJ9 A G t vd)) hdep 23 49 (by decide) (by kernel_rfl)
          clear hdep hsame hi hlate hfr hkeep
          have f1 : ¬ (2 : Int) ≤ (t : Int) := by have := TL.out; omega
          have f2 : (t : Int) < (2 : Int) := by have := TL.out; omega
          exact .inl ⟨wanted_of 23 rfl eg (by kernel_rfl), showsO_pure hsn rfl (.pointer (some ⟨G, t, none⟩)) (by simp only [execOp, Act.eval]; go_simp) rfl⟩
        | 26, hi =>
          cases (show some _ = some o from hi)
          have e51 : (f.tmps.getD 51 undef) = .pointer (some ⟨G, t, none⟩) := depS (V := (VJ9 A G t vd)) hdep 25 51 (by decide) (by kernel_rfl)
          have eg : f.tmps.getD 49 undef = .bool false := depS (V := (VJ9 A G t vd)) hdep 23 49 (by decide) (by kernel_rfl)
          clear hdep hsame hi hlate hfr hkeep
          have c52 := HLD.out u (HB8.out.trans (hb6.mono HB8.out.size))
          exact .inl ⟨wanted_of 23 rfl eg (by kernel_rfl), showsO_pure hsn rfl (vd) (by simp only [execOp, Act.eval]; go_simp) rfl⟩
        | 27, hi =>
          cases (show some _ = some o from hi)
          have e52 : (f.tmps.getD 52 undef) = vd := depS (V := (VJ9 A G t vd)) hdep 26 52 (by decide) (by kernel_rfl)
          have eg : f.tmps.getD 49 undef = .bool false := depS (V := (VJ9 A G t vd)) hdep 23 49 (by decide) (by kernel_rfl)
          clear hdep hsame hi hlate hfr hkeep
          have c := hashes_dead u vd (HDD.out u hbw)
          exact .inl ⟨wanted_of 23 rfl eg (by kernel_rfl), showsO_call (R := fun v _ => ∃ a c, v = .slice a 0 c) hsn rfl 13 #[vd] (by simp only [execOp, Act.eval]; go_simp) (c.mono fun e w' ⟨a, c, h1, h2⟩ => ⟨_, h1, ⟨a, c, rfl⟩, h2⟩) (fun v w' h _ => h)⟩
        | 28, hi =>
          cases (show some _ = some o from hi)
          have e53 : ∃ a c, (f.tmps.getD 53 undef) = .slice a 0 c := depS (V := (VJ9 A G t vd)) hdep 27 53 (by decide) (by kernel_rfl)
          have eg : f.tmps.getD 49 undef = .bool false := depS (V := (VJ9 A G t vd)) hdep 23 49 (by decide) (by kernel_rfl)
          clear hdep hsame hi hlate hfr hkeep
          obtain ⟨ra, rc, e53⟩ := e53
          exact .inl ⟨wanted_of 23 rfl eg (by kernel_rfl), showsO_pure hsn rfl (.int .i64 0) (by simp only [execOp, Act.eval]; go_simp) rfl⟩
        | 29, hi =>
          cases (show some _ = some o from hi)
          have e54 : (f.tmps.getD 54 undef) = .int .i64 0 := depS (V := (VJ9 A G t vd)) hdep 28 54 (by decide) (by kernel_rfl)
          have eg : f.tmps.getD 49 undef = .bool false := depS (V := (VJ9 A G t vd)) hdep 23 49 (by decide) (by kernel_rfl)
          clear hdep hsame hi hlate hfr hkeep
          exact .inl ⟨wanted_of 23 rfl eg (by kernel_rfl), showsO_pure hsn rfl (.bool false) (by simp only [execOp, Act.eval]; go_simp) rfl⟩
        | 30, hi =>
          cases (show some _ = some o from hi)
          have e49 : (f.tmps.getD 49 undef) = .bool false := depS (V := (VJ9 A G t vd)) hdep 23 49 (by decide) (by kernel_rfl)
          have e55 : (f.tmps.getD 55 undef) = .bool false := depS (V := (VJ9 A G t vd)) hdep 29 55 (by decide) (by kernel_rfl)
          clear hdep hsame hi hlate hfr hkeep
          exact .inl ⟨wanted_none rfl, showsO_pure hsn rfl (.bool false) (by simp only [execOp, Act.eval]; go_simp) rfl⟩
        | n + 31, hi => exact absurd hi (by simp)
      intro f u9 own hsame hsn hall
      have q26 : f.tmps.getD 26 undef = .iface 124 (.pointer (some (A 0))) := finO (V := (VJ9 A G t vd)) hall 0 26 rfl
      have q27 : f.tmps.getD 27 undef = .bool true := finO (V := (VJ9 A G t vd)) hall 1 27 rfl
      have q28 : f.tmps.getD 28 undef = .bool false := finO (V := (VJ9 A G t vd)) hall 2 28 rfl
      have q29 : f.tmps.getD 29 undef = .bool false := finO (V := (VJ9 A G t vd)) hall 3 29 rfl
      have q30 : f.tmps.getD 30 undef = .slice none 0 0 := finO (V := (VJ9 A G t vd)) hall 4 30 rfl
      have q31 : f.tmps.getD 31 undef = .int .i64 0 := finO (V := (VJ9 A G t vd)) hall 5 31 rfl
      have q32 : f.tmps.getD 32 undef = .bool false := finO (V := (VJ9 A G t vd)) hall 6 32 rfl
      have q33 : f.tmps.getD 33 undef = .bool false := finO (V := (VJ9 A G t vd)) hall 7 33 rfl
      have q34 : f.tmps.getD 34 undef = .bool false := finO (V := (VJ9 A G t vd)) hall 8 34 rfl
      have q35 : f.tmps.getD 35 undef = .int .i64 (t : Int) := finO (V := (VJ9 A G t vd)) hall 9 35 rfl
      have q36 : f.tmps.getD 36 undef = .pointer (some ⟨G, t, none⟩) := finO (V := (VJ9 A G t vd)) hall 10 36 rfl
      have q37 : f.tmps.getD 37 undef = vd := finO (V := (VJ9 A G t vd)) hall 11 37 rfl
      have q38 : f.tmps.getD 38 undef = .int .u64 0 := finO (V := (VJ9 A G t vd)) hall 12 38 rfl
      have q39 : f.tmps.getD 39 undef = .bool false := finO (V := (VJ9 A G t vd)) hall 13 39 rfl
      have q40 : f.tmps.getD 40 undef = .bool false := finO (V := (VJ9 A G t vd)) hall 14 40 rfl
      have q41 : f.tmps.getD 41 undef = .bool false := finO (V := (VJ9 A G t vd)) hall 15 41 rfl
      have q42 : f.tmps.getD 42 undef = .int .i64 (t : Int) := finO (V := (VJ9 A G t vd)) hall 16 42 rfl
      have q43 : f.tmps.getD 43 undef = .pointer (some ⟨G, t, none⟩) := finO (V := (VJ9 A G t vd)) hall 17 43 rfl
      have q44 : f.tmps.getD 44 undef = vd := finO (V := (VJ9 A G t vd)) hall 18 44 rfl
      have q45 : f.tmps.getD 45 undef = .agg (ocells (zero32')) := finO (V := (VJ9 A G t vd)) hall 19 45 rfl
      have q46 : f.tmps.getD 46 undef = .agg (ocells (zero32')) := finO (V := (VJ9 A G t vd)) hall 20 46 rfl
      have q47 : f.tmps.getD 47 undef = .bool false := finO (V := (VJ9 A G t vd)) hall 21 47 rfl
      have q48 : f.tmps.getD 48 undef = .bool false := finO (V := (VJ9 A G t vd)) hall 22 48 rfl
      have q49 : f.tmps.getD 49 undef = .bool false := finO (V := (VJ9 A G t vd)) hall 23 49 rfl
      have q50 : f.tmps.getD 50 undef = .int .i64 (t : Int) := finO (V := (VJ9 A G t vd)) hall 24 50 rfl
      have q51 : f.tmps.getD 51 undef = .pointer (some ⟨G, t, none⟩) := finO (V := (VJ9 A G t vd)) hall 25 51 rfl
      have q52 : f.tmps.getD 52 undef = vd := finO (V := (VJ9 A G t vd)) hall 26 52 rfl
      obtain ⟨ra, rc, q53⟩ := finO (V := (VJ9 A G t vd)) hall 27 53 rfl
      have q54 : f.tmps.getD 54 undef = .int .i64 0 := finO (V := (VJ9 A G t vd)) hall 28 54 rfl
      have q55 : f.tmps.getD 55 undef = .bool false := finO (V := (VJ9 A G t vd)) hall 29 55 rfl
      have q56 : f.tmps.getD 56 undef = .bool false := finO (V := (VJ9 A G t vd)) hall 30 56 rfl
      obtain rfl := frame_eq hsame [(26, .iface 124 (.pointer (some (A 0)))), (27, .bool true), (28, .bool false), (29, .bool false), (30, .slice none 0 0), (31, .int .i64 0), (32, .bool false), (33, .bool false), (34, .bool false), (35, .int .i64 (t : Int)), (36, .pointer (some ⟨G, t, none⟩)), (37, vd), (38, .int .u64 0), (39, .bool false), (40, .bool false), (41, .bool false), (42, .int .i64 (t : Int)), (43, .pointer (some ⟨G, t, none⟩)), (44, vd), (45, .agg (ocells (zero32'))), (46, .agg (ocells (zero32'))), (47, .bool false), (48, .bool false), (49, .bool false), (50, .int .i64 (t : Int)), (51, .pointer (some ⟨G, t, none⟩)), (52, vd), (53, .slice ra 0 rc), (54, .int .i64 0), (55, .bool false), (56, .bool false)] (by kernel_rfl) ⟨q26, q27, q28, q29, q30, q31, q32, q33, q34, q35, q36, q37, q38, q39, q40, q41, q42, q43, q44, q45, q46, q47, q48, q49, q50, q51, q52, q53, q54, q55, q56, trivial⟩
      clear hall hsame q26 q27 q28 q29 q30 q31 q32 q33 q34 q35 q36 q37 q38 q39 q40 q41 q42 q43 q44 q45 q46 q47 q48 q49 q50 q51 q52 q53 q54 q55 q56
      simp only [List.foldl, List.setIfInBounds_toArray, List.set_cons_succ, List.set_cons_zero]
      have hb := hsn.below (B := u8.heap.size) (fun _ _ => rfl) (Nat.le_refl _)
      have HB9 := Bx.mk (HB8.out.trans (hb.mono HB8.out.size))
      clear hb hsn
      go_wp2_with fail
      go_roundw
      case rel => exact ⟨t + 1, TL.out, by go_num, HB9.out⟩
      case measure => have := TL.out; simp [intOf]; omega
    · obtain rfl : t = 2 := by omega
      go_wp2_with fail
      go_ret
      exact ⟨rfl, KW.out.trans (HB.out.mono KW.out.size)⟩
end Go.Proofs.YtbhcaalelfaceaaDoor
