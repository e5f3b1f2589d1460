/- cartularylaw01.SameHashes, TwinHashes, LeftHashes. -/
import Derived.Test.YtbhcaalelfaceaaGreatDoorVh
import Derived.Test.YtbhcaalelfaceaaGreatDoorG6
import Derived.Laws.MakeOwn
namespace Go.Proofs.YtbhcaalelfaceaaGreatDoor
set_option maxRecDepth 100000
open Go.RowKit
theorem hszB' {L : List UInt8} (h : L.length = 32) : (Tryz.prog.info? 66).map (·.size) = some (bcells L).length := by rw [bcells_length]; have := hszL h; rwa [ocells_size] at this
theorem hv_neq (w : World) (a b : List UInt8) (ha : a.length = 32) (hb : b.length = 32) : (binOp .neq 66 (hv a) (hv b)).run Tryz.prog w = .ok (.bool (!(a == b))) w := by
  rw [hv_agg, hv_agg]
  show (binOp .neq 66 (.agg (a.map Extern.Stop.cell).toArray) (.agg (b.map Extern.Stop.cell).toArray)).run Tryz.prog w = _
  rw [run_neq_struct, run_equalIn_bytes w 9998 66 5 32 underH (by kernel_rfl) (fun _ => by kernel_rfl) a b ha hb]
  rfl
theorem below_setCells {B b : Nat} {w : World} (hb : B ≤ b) : ∀ (vs : List Value) (o : Nat) (W : World), Below B w W → Below B w (W.setCells b o vs)
  | [], _, _, h => h
  | v :: vs, o, W, h => by rw [World.setCells]; exact below_setCells hb vs (o + 1) _ (h.setCell hb v)
theorem size_setCells (b : Nat) : ∀ (vs : List Value) (o : Nat) (W : World), (W.setCells b o vs).heap.size = W.heap.size
  | [], _, _ => rfl
  | v :: vs, o, W => by rw [World.setCells, size_setCells b vs (o + 1)]; simp
def VSm (B1 o1 c1 B2 o2 c2 l t : Nat) (x y : List UInt8) (oi : Nat) (v : Value) (_own : Nat → Option Nat) (_w : World) : Prop :=
  match oi with
  | 0 => v = .slice (some ⟨B1, o1, none⟩) l c1
  | 1 => v = .int .i64 (t : Int)
  | 2 => v = .pointer (some ⟨B1, o1 + t * 32, none⟩)
  | 3 => v = .agg (ocells x)
  | 4 => v = .slice (some ⟨B2, o2, none⟩) l c2
  | 5 => v = .int .i64 (t : Int)
  | 6 => v = .pointer (some ⟨B2, o2 + t * 32, none⟩)
  | 7 => v = .agg (ocells y)
  | 8 => v = .bool (!(x == y))
  | _ => True
def VSmmk : Nat → Option Nat := fun _ => none
theorem VSm_mono (B1 o1 c1 B2 o2 c2 l t : Nat) (x y : List UInt8) (oi oj : Nat) (v : Value) (own : Nat → Option Nat) (w : World) (own' : Nat → Option Nat) (w' : World) (hij : oi ≠ oj) (h : VSm B1 o1 c1 B2 o2 c2 l t x y oj v own w) (_r : Rel VSmmk oi own w own' w') : VSm B1 o1 c1 B2 o2 c2 l t x y oj v own' w' := by
  unfold VSm at h ⊢
  split at h
  · exact h
  · exact h
  · exact h
  · exact h
  · exact h
  · exact h
  · exact h
  · exact h
  · exact h
  · trivial

theorem getElem_ne {a b : List (List UInt8)} {t : Nat} (ha : t < a.length) (hb : t < b.length) (h : (a[t] == b[t]) = false) : (a == b) = false := by
  rw [beq_eq_false_iff_ne] at h ⊢
  intro e
  subst e
  exact h rfl
set_option maxHeartbeats 1600000 in
theorem same_any (w : World) (a1 : Option Addr) (n1 c1 : Nat) (ps : List (List UInt8)) (a2 : Option Addr) (n2 c2 : Nat) (qs : List (List UInt8)) (h1 : Hss w (.slice a1 n1 c1) ps) (h2 : Hss w (.slice a2 n2 c2) qs) :
    Calls Tryz.prog 21 #[.slice a1 n1 c1, .slice a2 n2 c2] w fun e w' => e = .returned (.bool (ps == qs)) ∧ Below w.heap.size w w' := by
  obtain ⟨_, _, e1, b1, b1'⟩ := h1.len
  obtain ⟨_, _, e2, b2, b2'⟩ := h2.len
  have hn1 : n1 = ps.length := by cases e1; rfl
  have hn2 : n2 = qs.length := by cases e2; rfl
  subst hn1; subst hn2
  have H1 := Bx.mk h1; have H2 := Bx.mk h2
  clear h1 h2 e1 e2
  go_enter Tryz.func21, Tryz.ntmps21
  by_cases hl : ps.length = qs.length
  · obtain ⟨l, hl1⟩ : ∃ l, l = ps.length := ⟨_, rfl⟩
    have hlb : l ≤ 9223372036854775807 := by omega
    rw [← hl, ← hl1]
    have HL := Bx.mk hl; have HL1 := Bx.mk hl1
    clear hl hl1
    go_wp2_with fail
    go_loopw [5] (fun i wr => ∃ t : Nat, t ≤ l ∧ i = .int .i64 (t : Int) ∧ ps.take t = qs.take t ∧ Below w.heap.size w wr) (fun i _ => l - (intOf i).toNat)
    case atStart => exact ⟨0, Nat.zero_le _, rfl, rfl, Below.refl _ _⟩
    case round =>
      obtain ⟨t, ht, rfl, heq, hb⟩ := hrel
      have HE := Bx.mk heq; have B0 := Bx.mk hb; clear heq hb
      by_cases hlt : t < l
      · have htp : t < ps.length := by rw [← HL1.out]; exact hlt
        have htq : t < qs.length := by rw [← HL.out, ← HL1.out]; exact hlt
        obtain ⟨_, hc1, hc1', B1, o1, rfl, l1, r1, x1⟩ := (H1.out.below B0.out).at t htp
        obtain ⟨_, hc2, hc2', B2, o2, rfl, l2, r2, x2⟩ := (H2.out.below B0.out).at t htq
        have hne := getElem_ne (a := ps) (b := qs) htp htq
        have htk1 : ps.take (t + 1) = ps.take t ++ [ps[t]] := List.take_succ_eq_append_getElem htp
        have htk2 : qs.take (t + 1) = qs.take t ++ [qs[t]] := List.take_succ_eq_append_getElem htq
        generalize ps[t] = x at r1 x1 hne htk1
        generalize qs[t] = y at r2 x2 hne htk2
        have R1 := Bx.mk r1; have R2 := Bx.mk r2; have L1 := Bx.mk l1; have L2 := Bx.mk l2; have XL := Bx.mk x1; have YL := Bx.mk x2; have NE := Bx.mk hne; have T1 := Bx.mk htk1; have T2 := Bx.mk htk2
        clear r1 r2 l1 l2 x1 x2 hne htk1 htk2 htp htq hc1 hc2 hc1' hc2'
        go_upto_region 6 with (fail)
        refine wp_region_own (n := 26) VSmmk (fun _ => none) (VSm B1 o1 c1 B2 o2 c2 l t x y) (by kernel_rfl) (by kernel_rfl) rfl ?_ ?_ (VSm_mono B1 o1 c1 B2 o2 c2 l t x y) ?_ ?_
        · exact fun _ _ => rfl
        · exact fun _ _ h => by cases h
        · intro oi o hi f u own hsame hsn hfr hdep
          have hb := hsn.below (B := wr.heap.size) (fun _ _ => rfl) (Nat.le_refl _)
          have hr1 := rangeAt_below R1.out L1.out hb
          have hr2 := rangeAt_below R2.out L2.out hb
          match oi, hi with
          | 0, hi =>
            cases (show some _ = some o from hi)
            have e0 : f.tmps.getD 0 undef = .slice (some ⟨B1, o1, none⟩) l c1 := hsame.slot 0 (fun i o h => invB2_not 0 (by kernel_rfl) h)
            clear hdep hsame hi hfr
            exact ⟨wanted_none rfl, showsO_move hsn rfl _ rfl e0⟩
          | 1, hi =>
            cases (show some _ = some o from hi)
            have e5 : f.tmps.getD 5 undef = .int .i64 (t : Int) := hsame.slot 5 (fun i o h => invB2_not 5 (by kernel_rfl) h)
            clear hdep hsame hi hfr
            exact ⟨wanted_none rfl, showsO_move hsn rfl _ rfl e5⟩
          | 2, hi =>
            cases (show some _ = some o from hi)
            have e17 : f.tmps.getD 17 undef = .slice (some ⟨B1, o1, none⟩) l c1 := depO (V := (VSm B1 o1 c1 B2 o2 c2 l t x y)) hdep 0 17 (by kernel_rfl) (by kernel_rfl)
            have e18 : f.tmps.getD 18 undef = .int .i64 (t : Int) := depO (V := (VSm B1 o1 c1 B2 o2 c2 l t x y)) hdep 1 18 (by kernel_rfl) (by kernel_rfl)
            clear hdep hsame hi hfr
            have f1 : ¬ (l : Int) ≤ (t : Int) := by omega
            have f2 : (t : Int) < (l : Int) := by omega
            exact ⟨wanted_none rfl, showsO_pure hsn rfl (.pointer (some ⟨B1, o1 + t * 32, none⟩)) (by simp only [execOp, Act.eval]; go_simp) rfl⟩
          | 3, hi =>
            cases (show some _ = some o from hi)
            have e19 : f.tmps.getD 19 undef = .pointer (some ⟨B1, o1 + t * 32, none⟩) := depO (V := (VSm B1 o1 c1 B2 o2 c2 l t x y)) hdep 2 19 (by kernel_rfl) (by kernel_rfl)
            clear hdep hsame hi hfr
            exact ⟨wanted_none rfl, showsO_mid hsn rfl 66 (.tmp 19) rfl B1 (o1 + t * 32) e19 (bcells x) hr1 underH rfl (hszB' XL.out) rfl⟩
          | 4, hi =>
            cases (show some _ = some o from hi)
            have e1 : f.tmps.getD 1 undef = .slice (some ⟨B2, o2, none⟩) l c2 := hsame.slot 1 (fun i o h => invB2_not 1 (by kernel_rfl) h)
            clear hdep hsame hi hfr
            exact ⟨wanted_none rfl, showsO_move hsn rfl _ rfl e1⟩
          | 5, hi =>
            cases (show some _ = some o from hi)
            have e5 : f.tmps.getD 5 undef = .int .i64 (t : Int) := hsame.slot 5 (fun i o h => invB2_not 5 (by kernel_rfl) h)
            clear hdep hsame hi hfr
            exact ⟨wanted_none rfl, showsO_move hsn rfl _ rfl e5⟩
          | 6, hi =>
            cases (show some _ = some o from hi)
            have e21 : f.tmps.getD 21 undef = .slice (some ⟨B2, o2, none⟩) l c2 := depO (V := (VSm B1 o1 c1 B2 o2 c2 l t x y)) hdep 4 21 (by kernel_rfl) (by kernel_rfl)
            have e22 : f.tmps.getD 22 undef = .int .i64 (t : Int) := depO (V := (VSm B1 o1 c1 B2 o2 c2 l t x y)) hdep 5 22 (by kernel_rfl) (by kernel_rfl)
            clear hdep hsame hi hfr
            have f1 : ¬ (l : Int) ≤ (t : Int) := by omega
            have f2 : (t : Int) < (l : Int) := by omega
            exact ⟨wanted_none rfl, showsO_pure hsn rfl (.pointer (some ⟨B2, o2 + t * 32, none⟩)) (by simp only [execOp, Act.eval]; go_simp) rfl⟩
          | 7, hi =>
            cases (show some _ = some o from hi)
            have e23 : f.tmps.getD 23 undef = .pointer (some ⟨B2, o2 + t * 32, none⟩) := depO (V := (VSm B1 o1 c1 B2 o2 c2 l t x y)) hdep 6 23 (by kernel_rfl) (by kernel_rfl)
            clear hdep hsame hi hfr
            exact ⟨wanted_none rfl, showsO_mid hsn rfl 66 (.tmp 23) rfl B2 (o2 + t * 32) e23 (bcells y) hr2 underH rfl (hszB' YL.out) rfl⟩
          | 8, hi =>
            cases (show some _ = some o from hi)
            have e20 : f.tmps.getD 20 undef = .agg (ocells x) := depO (V := (VSm B1 o1 c1 B2 o2 c2 l t x y)) hdep 3 20 (by kernel_rfl) (by kernel_rfl)
            have e24 : f.tmps.getD 24 undef = .agg (ocells y) := depO (V := (VSm B1 o1 c1 B2 o2 c2 l t x y)) hdep 7 24 (by kernel_rfl) (by kernel_rfl)
            clear hdep hsame hi hfr
            have q := fun u => hv_neq u x y XL.out YL.out
            simp only [hv_agg] at q
            exact ⟨wanted_none rfl, showsO_pure hsn rfl (.bool (!(x == y))) (by simp only [execOp, Act.eval]; go_simp) rfl⟩
          | n + 9, hi => exact absurd hi (by simp)
        · intro f u own hsame hsn hall
          have hb := hsn.below (B := wr.heap.size) (fun _ _ => rfl) (Nat.le_refl _)
          have q17 : f.tmps.getD 17 undef = .slice (some ⟨B1, o1, none⟩) l c1 := finO (V := (VSm B1 o1 c1 B2 o2 c2 l t x y)) hall 0 17 rfl
          have q18 : f.tmps.getD 18 undef = .int .i64 (t : Int) := finO (V := (VSm B1 o1 c1 B2 o2 c2 l t x y)) hall 1 18 rfl
          have q19 : f.tmps.getD 19 undef = .pointer (some ⟨B1, o1 + t * 32, none⟩) := finO (V := (VSm B1 o1 c1 B2 o2 c2 l t x y)) hall 2 19 rfl
          have q20 : f.tmps.getD 20 undef = .agg (ocells x) := finO (V := (VSm B1 o1 c1 B2 o2 c2 l t x y)) hall 3 20 rfl
          have q21 : f.tmps.getD 21 undef = .slice (some ⟨B2, o2, none⟩) l c2 := finO (V := (VSm B1 o1 c1 B2 o2 c2 l t x y)) hall 4 21 rfl
          have q22 : f.tmps.getD 22 undef = .int .i64 (t : Int) := finO (V := (VSm B1 o1 c1 B2 o2 c2 l t x y)) hall 5 22 rfl
          have q23 : f.tmps.getD 23 undef = .pointer (some ⟨B2, o2 + t * 32, none⟩) := finO (V := (VSm B1 o1 c1 B2 o2 c2 l t x y)) hall 6 23 rfl
          have q24 : f.tmps.getD 24 undef = .agg (ocells y) := finO (V := (VSm B1 o1 c1 B2 o2 c2 l t x y)) hall 7 24 rfl
          have q25 : f.tmps.getD 25 undef = .bool (!(x == y)) := finO (V := (VSm B1 o1 c1 B2 o2 c2 l t x y)) hall 8 25 rfl
          obtain rfl := frame_eq hsame [(17, .slice (some ⟨B1, o1, none⟩) l c1), (18, .int .i64 (t : Int)), (19, .pointer (some ⟨B1, o1 + t * 32, none⟩)), (20, .agg (ocells x)), (21, .slice (some ⟨B2, o2, none⟩) l c2), (22, .int .i64 (t : Int)), (23, .pointer (some ⟨B2, o2 + t * 32, none⟩)), (24, .agg (ocells y)), (25, .bool (!(x == y)))] (by kernel_rfl) ⟨q17, q18, q19, q20, q21, q22, q23, q24, q25, trivial⟩
          clear hall hsame q17 q18 q19 q20 q21 q22 q23 q24 q25
          simp only [List.foldl, List.setIfInBounds_toArray, List.set_cons_succ, List.set_cons_zero]
          have HB := Bx.mk (B0.out.trans (hb.mono B0.out.size))
          clear hb hsn
          by_cases hxy : (x == y) = true
          · rw [hxy]
            have HXY := Bx.mk (eq_of_beq hxy); clear hxy
            go_wp2_with fail
            go_roundw
            case rel => exact ⟨t + 1, hlt, by go_num, by rw [T1.out, T2.out, HE.out, HXY.out], HB.out⟩
            case measure => simp [intOf]; omega
          · rw [show (x == y) = false by simpa using hxy]
            have HXY := Bx.mk (NE.out (by simpa using hxy)); clear hxy
            go_wp2_with fail
            go_ret
            exact ⟨by rw [HXY.out]; rfl, HB.out⟩
      · obtain rfl : t = l := by omega
        have hv : (ps == qs) = true := by
          have := HE.out
          rw [HL1.out, List.take_length, HL.out, List.take_length] at this
          rw [this]; simp
        have HV := Bx.mk hv; clear hv
        go_wp2_with fail
        go_ret
        exact ⟨by rw [HV.out]; rfl, B0.out⟩
  · have hv : (ps == qs) = false := by rw [beq_eq_false_iff_ne]; exact fun e => hl (by rw [e])
    have HV := Bx.mk hv; clear hv
    have hl' : ¬ (ps.length : Int) = (qs.length : Int) := by omega
    have hl'' : ((ps.length : Int) == (qs.length : Int)) = false := beq_eq_false_iff_ne.2 hl'
    have hl3 : (ps.length == qs.length) = false := beq_eq_false_iff_ne.2 hl
    go_wp2_with fail
    go_ret
    exact ⟨by rw [HV.out]; rfl, Below.refl _ _⟩
theorem there_row {w : World} {g : Nat} {cs : Array Value} {T : TypeId} (h : w.heap[g]? = some (.cells cs T (0, 0))) : w.there g 0 cs.size := fun j hj =>
  ⟨by rw [cell_of_row w g (0 + j) cs T _ h]; simp [hj], by simp [World.frozen?, h]⟩
theorem infoH : (Tryz.prog.info? 66).map (fun i => (i.zero, i.size, i.bytes)) = some (some (.agg zeros32), 32, 32) := by kernel_rfl
/-- the mark behind a copy -/
def markH : List UInt8 := [97, 30, 0, 0, 0, 0, 0, 0, 0, 0, 0, 0, 0, 0, 0, 0, 0, 0, 0, 0, 0, 0, 0, 0, 0, 0, 0, 0, 0, 0, 0, 201]
theorem markH_length : markH.length = 32 := rfl
theorem built_mark : Tryz.prog.built 66 [(0, .int .u8 97), (1, .int .u8 30), (2, .int .u8 0), (31, .int .u8 201)] = some (ocells markH) := by kernel_rfl
/-- a copy with its mark -/
def TwinAt (w : World) (v : Value) (ps : List (List UInt8)) : Prop :=
  Hss w v ps ∧ ∃ B, v = .slice (some ⟨B, 0, none⟩) ps.length (ps.length + 1) ∧ B < w.heap.size ∧ w.rangeAt B (ps.length * 32) (bcells markH)
theorem TwinAt.below {w w' : World} {v : Value} {ps : List (List UInt8)} (h : TwinAt w v ps) (k : Below w.heap.size w w') : TwinAt w' v ps := by
  obtain ⟨h1, B, e, hB, hr⟩ := h
  exact ⟨h1.below k, B, e, Nat.lt_of_lt_of_le hB k.size, rangeAt_below hr hB k⟩
set_option maxHeartbeats 800000 in
theorem mark_any (w : World) : Calls Tryz.prog 74 #[.int .i64 7777] w fun e w' => e = .returned (.agg (ocells markH)) ∧ Below w.heap.size w w' := by
  have hb := built_mark
  have r0 : (w.alloc (.cells zeros32 66)).heap[w.heap.size]? = some (.cells zeros32 66 (0, 0)) := heap_alloc_new _ _
  have k0 := er_al (Below.refl w.heap.size w) (.cells zeros32 66)
  go_enter Tryz.func74, Tryz.ntmps74
  go_upto_region 1 with (fail)
  change Code.wp _ _ _ _ (w.alloc (.cells zeros32 66))
  generalize w.alloc (.cells zeros32 66) = W at r0 k0 ⊢
  have R0' := Bx.mk r0; have K0 := Bx.mk k0; clear r0 k0 hb
  go_wp2_with (guard_target =~ wpList _ _ _ (⟨none, _, _, _, _, _⟩ :: _) _ _; refine wpList_store_row rfl 66 (.tmp 2) (.tmp 11) rfl w.heap.size (ocells markH) rfl rfl _ _ R0'.out (hszL markH_length) (hsoL markH_length) (ocells_one _) ?_)
  exact bodyPost_ret (results_cell_row rfl _ _ w.heap.size _ (ocells markH) _ _ rfl (setRow_heap _ _ _ _ _ _ R0'.out) underH rfl (hszL markH_length)) rfl ⟨rfl, below_setRow K0.out (Nat.le_refl _) _⟩
set_option maxHeartbeats 1600000 in
theorem twinB_any (w : World) (ad : Option Addr) (n cap : Nat) (ps : List (List UInt8)) (h : Hss w (.slice ad n cap) ps) (hm : ps.length ≤ 1048576) :
    Calls Tryz.prog 11 #[.slice ad n cap] w fun e w' => ∃ v, e = .returned v ∧ (TwinAt w' v ps ∧ v = .slice (some ⟨w.heap.size, 0, none⟩) ps.length (ps.length + 1) ∧ w'.there w.heap.size 0 ((ps.length + 1) * 32)) ∧ Below w.heap.size w w' := by
  obtain ⟨_, _, e1, b1, b1'⟩ := h.len
  have hn1 : n = ps.length := by cases e1; rfl
  subst hn1
  obtain ⟨im, hi1, hi2⟩ := Option.map_eq_some_iff.1 infoH
  simp only [Prod.mk.injEq] at hi2
  obtain ⟨hz, hsz, hby⟩ := hi2
  have mk : ∀ u : World, (Instr.makeSlice 51 (.int .i64 ((ps.length : Int) + 1)) (.int .i64 ((ps.length : Int) + 1))).run Tryz.prog u = .ok (.slice (some ⟨u.heap.size, 0, none⟩) (ps.length + 1) (ps.length + 1)) (u.alloc (.cells (madeCells zeros32 ((ps.length + 1) * 32)) 66)) := fun u => by
    have := run_make (P := Tryz.prog) u 51 66 im (.agg zeros32) underHs hi1 hz .i64 .i64 ((ps.length : Int) + 1) ((ps.length : Int) + 1) (by omega) (Int.le_refl _) (by rw [hby]; omega) (by omega)
    rw [this, hsz, show ((ps.length : Int) + 1).toNat = ps.length + 1 by omega]
    rfl
  have MK := Bx.mk mk
  have HH := Bx.mk h
  clear mk h e1 hi1 hz hsz hby
  have mk := MK.out w
  obtain ⟨l, hl⟩ : ∃ l, l = ps.length := ⟨_, rfl⟩
  rw [← hl] at mk hm b1 ⊢
  have x0 : (w.alloc (.cells (madeCells zeros32 ((l + 1) * 32)) 66)).there w.heap.size 0 ((l + 1) * 32) := by
    have := there_row (heap_alloc_new w (.cells (madeCells zeros32 ((l + 1) * 32)) 66))
    rwa [size_madeCells] at this
  have k0 := er_al (Below.refl w.heap.size w) (.cells (madeCells zeros32 ((l + 1) * 32)) 66)
  have s0 : w.heap.size < (w.alloc (.cells (madeCells zeros32 ((l + 1) * 32)) 66)).heap.size := by simp
  have HL := Bx.mk hl
  clear hl
  have d1 : IntKind.i64.wrap ((l : Int) + 1) = (l : Int) + 1 := by simp [IntKind.wrap, IntKind.bits, IntKind.signed]; omega
  go_enter Tryz.func11, Tryz.ntmps11
  go_upto_region 2 with (fail)
  generalize w.alloc (.cells (madeCells zeros32 ((l + 1) * 32)) 66) = W at x0 k0 s0 ⊢
  have X0 := Bx.mk x0; have K0 := Bx.mk k0; have S0 := Bx.mk s0
  clear x0 k0 s0 mk d1
  obtain ⟨B, hB⟩ : ∃ B, B = w.heap.size := ⟨_, rfl⟩
  rw [← hB] at X0 K0 S0 ⊢
  have HB := Bx.mk hB; clear hB
  go_wp2_with fail
  go_loopw [4] (fun i wr => ∃ t : Nat, t ≤ l ∧ i = .int .i64 (t : Int) ∧ (∀ j (hj : j < ps.length), j < t → wr.rangeAt B (j * 32) (bcells ps[j])) ∧ wr.there B 0 ((l + 1) * 32) ∧ Below B w wr ∧ B < wr.heap.size) (fun i _ => l - (intOf i).toNat)
  case atStart => exact ⟨0, Nat.zero_le _, rfl, fun j _ h => absurd h (Nat.not_lt_zero _), X0.out, K0.out, S0.out⟩
  case round =>
    obtain ⟨t, ht, rfl, hr, hth, hb, hs⟩ := hrel
    have RR := Bx.mk hr; have TH := Bx.mk hth; have BB := Bx.mk hb; have SS := Bx.mk hs
    clear hr hth hb hs X0 K0 S0
    by_cases hlt : t < l
    · have htp : t < ps.length := by rw [← HL.out]; exact hlt
      obtain ⟨_, hc1, hc1', B1, o1, rfl, l1, r1, x1⟩ := (HH.out.below (HB.out ▸ BB.out)).at t htp
      have hrn : ∀ wn : World, wn.rangeAt B (t * 32) (bcells ps[t]) → (∀ j (hj : j < ps.length), j < t → wn.rangeAt B (j * 32) (bcells ps[j])) → ∀ j (hj : j < ps.length), j < t + 1 → wn.rangeAt B (j * 32) (bcells ps[j]) := fun wn h1 h2 j hj hjt => by
        rcases Nat.lt_succ_iff_lt_or_eq.1 hjt with h | rfl
        · exact h2 j hj h
        · exact h1
      have hth : wr.there B (t * 32) (ocells ps[t]).size := fun j hj => by
        have := TH.out (t * 32 + j) (by rw [ocells_size, x1] at hj; omega)
        rwa [Nat.zero_add] at this
      have R1 := Bx.mk r1; have XL := Bx.mk x1; have HRN := Bx.mk hrn; have T1 := Bx.mk hth
      clear r1 x1 hrn hth l1
      go_wp2_with (first
        | (guard_target =~ wpList _ _ _ (⟨some 20, _, _, _, _, _⟩ :: _) _ _; refine wpList_load_mid rfl 66 (.tmp 19) rfl B1 (o1 + t * 32) rfl (bcells (ps[t]'htp)) _ R1.out underH rfl (hszB' XL.out) ?_)
        | (guard_target =~ wpList _ _ _ (⟨none, _, _, _, _, _⟩ :: _) _ _; refine wpList_store_mid rfl 66 (.tmp 21) (.tmp 20) rfl B (t * 32) (ocells (ps[t]'htp)) rfl rfl T1.out (hszL XL.out) (ocells_one _) ?_))
      go_roundw
      case rel =>
        refine ⟨t + 1, hlt, by go_num, HRN.out _ (World.rangeAt_setCells_same wr B (t * 32) (ocells (ps[t]'htp)).toList ?_) (fun j hj hjt => ?_), World.there_setCells TH.out _ _ _, below_setCells (Nat.le_refl _) _ _ _ BB.out, by rw [size_setCells]; exact SS.out⟩
        · have := T1.out; rwa [← Array.length_toList] at this
        · refine World.rangeAt_setCells_apart (RR.out j hj hjt) B _ _ (.inr (.inl ?_))
          have h32 : (bcells (ps[j]'hj)).length = 32 := by rw [bcells_length]; exact HH.out.1 _ (List.getElem_mem hj)
          rw [h32]; omega
      case measure => simp [intOf]; omega
    · obtain rfl : t = l := by omega
      have cm := mark_any wr
      have CM := Bx.mk cm; clear cm
      go_wp2_with fail
      refine CM.out.mono ?_
      rintro e w1 ⟨rfl, hb⟩
      have th1 : w1.there B (t * 32) (ocells markH).size := fun j hj => by
        have := TH.out (t * 32 + j) (by rw [ocells_size, markH_length] at hj; omega)
        rw [Nat.zero_add] at this
        have e1 := hb.cell (p := ⟨B, t * 32 + j, none⟩) SS.out
        have e2 := hb.frozen (p := ⟨B, t * 32 + j, none⟩) SS.out
        exact ⟨by rw [e1]; exact this.1, by rw [e2]; exact this.2⟩
      have rr1 : ∀ j (hj : j < ps.length), w1.rangeAt B (j * 32) (bcells ps[j]) := fun j hj => rangeAt_below (RR.out j hj (by rw [HL.out]; exact hj)) SS.out hb
      have tha : w1.there B 0 ((t + 1) * 32) := fun j hj => by
        have := TH.out j hj
        have e1 := hb.cell (p := ⟨B, 0 + j, none⟩) SS.out
        have e2 := hb.frozen (p := ⟨B, 0 + j, none⟩) SS.out
        exact ⟨by rw [e1]; exact this.1, by rw [e2]; exact this.2⟩
      have THA := Bx.mk tha
      have TH1 := Bx.mk th1; have RR1 := Bx.mk rr1; have BB1 := Bx.mk (BB.out.trans (hb.mono (by have := SS.out; omega))); have SS1 := Bx.mk (Nat.lt_of_lt_of_le SS.out hb.size)
      clear th1 rr1 hb tha
      go_wp2_with (guard_target =~ wpList _ _ _ (⟨none, _, _, _, _, _⟩ :: _) _ _; refine wpList_store_mid rfl 66 (.tmp 26) (.tmp 25) rfl B (t * 32) (ocells markH) rfl rfl TH1.out (hszL markH_length) (ocells_one _) ?_)
      go_ret
      have hl := HL.out
      refine ⟨_, rfl, ⟨⟨⟨HH.out.1, some ⟨B, 0, none⟩, t + 1, by rw [← hl]; rfl, by omega, by unfold maxLen; omega, fun _ => ⟨B, 0, rfl, by rw [size_setCells]; exact SS1.out, fun j hj => ?_⟩⟩, B, by rw [← hl]; rfl, by rw [size_setCells]; exact SS1.out, ?_⟩, by rw [← HB.out]; rfl, by rw [← HB.out]; exact World.there_setCells THA.out _ _ _⟩, HB.out ▸ below_setCells (Nat.le_refl _) _ _ _ BB1.out⟩
      · rw [Nat.zero_add]
        refine World.rangeAt_setCells_apart (RR1.out j hj) B _ _ (.inr (.inl ?_))
        have h32 : (bcells (ps[j]'hj)).length = 32 := by rw [bcells_length]; exact HH.out.1 _ (List.getElem_mem hj)
        rw [h32]; omega
      · rw [← hl]
        refine World.rangeAt_setCells_same w1 B (t * 32) (ocells markH).toList ?_
        have := TH1.out; rwa [← Array.length_toList] at this
theorem twin_any (w : World) (ad : Option Addr) (n cap : Nat) (ps : List (List UInt8)) (h : Hss w (.slice ad n cap) ps) (hm : ps.length ≤ 1048576) :
    Calls Tryz.prog 11 #[.slice ad n cap] w fun e w' => ∃ v, e = .returned v ∧ TwinAt w' v ps ∧ Below w.heap.size w w' :=
  (twinB_any w ad n cap ps h hm).mono fun _ _ ⟨v, h1, h2, h3⟩ => ⟨v, h1, h2.1, h3⟩
end Go.Proofs.YtbhcaalelfaceaaGreatDoor
