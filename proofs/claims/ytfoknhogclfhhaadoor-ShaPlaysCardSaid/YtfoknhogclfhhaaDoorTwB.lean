/- cartularylaw01.SameBytes, TwinBytes, LeftBytes. -/
import Derived.Test.YtfoknhogclfhhaaDoorRow1
namespace Go.Proofs.YtfoknhogclfhhaaDoor
set_option maxRecDepth 100000
open Go.RowKit
def FB (x : UInt8) : Value := .int .u8 (x.toNat : Int)
theorem underBs : Tryd.prog.underlying 30 = some (.slice 5) := by kernel_rfl
theorem infoBe : (Tryd.prog.info? 5).map (fun i => (i.zero, i.size, i.bytes)) = some (some (.int .u8 0), 1, 1) := by kernel_rfl
def markB : UInt8 := 128
theorem neqB (w : World) (x y : UInt8) : (binOp .neq 5 (FB x) (FB y)).run Tryd.prog w = .ok (.bool (!decide (x = y))) w := by
  have h : ((x.toNat : Int) == (y.toNat : Int)) = decide (x = y) := by
    rw [Bool.eq_iff_iff, beq_iff_eq, decide_eq_true_iff]
    exact ⟨fun h => UInt8.toNat_inj.1 (by omega), fun h => by rw [h]⟩
  unfold FB
  go_simp
  rw [← h]
  rfl
theorem cmpB (x y : UInt8) : ((x.toNat : Int) != (y.toNat : Int)) = !decide (x = y) := by
  have h : ((x.toNat : Int) == (y.toNat : Int)) = decide (x = y) := by
    rw [Bool.eq_iff_iff, beq_iff_eq, decide_eq_true_iff]
    exact ⟨fun h => UInt8.toNat_inj.1 (by omega), fun h => by rw [h]⟩
  rw [← h]
  rfl
set_option maxHeartbeats 1600000 in
theorem sameB_any (w : World) (a1 : Option Addr) (n1 c1 : Nat) (ps : List UInt8) (a2 : Option Addr) (n2 c2 : Nat) (qs : List UInt8) (h1 : Ro FB w (.slice a1 n1 c1) ps) (h2 : Ro FB w (.slice a2 n2 c2) qs) :
    Calls Tryd.prog 36 #[.slice a1 n1 c1, .slice a2 n2 c2] w fun e w' => e = .returned (.bool (decide (ps = qs))) ∧ Below w.heap.size w w' := by
  obtain ⟨_, _, e1, b1, b1'⟩ := h1.len
  obtain ⟨_, _, e2, b2, b2'⟩ := h2.len
  have hn1 : n1 = ps.length := by cases e1; rfl
  have hn2 : n2 = qs.length := by cases e2; rfl
  subst hn1; subst hn2
  have H1 := Bx.mk h1; have H2 := Bx.mk h2
  clear h1 h2 e1 e2
  go_enter Tryd.func36, Tryd.ntmps36
  by_cases hl : ps.length = qs.length
  · obtain ⟨l, hl1⟩ : ∃ l, l = ps.length := ⟨_, rfl⟩
    have hlb : l ≤ 9223372036854775807 := by omega
    rw [← hl, ← hl1]
    have HL := Bx.mk hl; have HL1 := Bx.mk hl1
    clear hl hl1
    go_wp2_with fail
    go_loopw [5] (fun i wr => ∃ t : Nat, t ≤ l ∧ i = .int .i64 (t : Int) ∧ ps.take t = qs.take t ∧ Below w.heap.size w wr) (fun i _ => l - (intOf i).toNat)
    case atStart => exact ⟨0, Nat.zero_le _, rfl, rfl, Below.refl _ _⟩
    case round =>
      obtain ⟨t, ht, rfl, heq, hb⟩ := hrel
      have HE := Bx.mk heq; have B0 := Bx.mk hb; clear heq hb
      by_cases hlt : t < l
      · have htp : t < ps.length := by rw [← HL1.out]; exact hlt
        have htq : t < qs.length := by rw [← HL.out, ← HL1.out]; exact hlt
        obtain ⟨B1, o1, rfl, l1, r1⟩ := (H1.out.below B0.out).at t htp
        obtain ⟨B2, o2, rfl, l2, r2⟩ := (H2.out.below B0.out).at t htq
        have hne : ¬ ps[t] = qs[t] → decide (ps = qs) = false := fun h => by
          rw [decide_eq_false_iff_not]
          intro e
          subst e
          exact h rfl
        have htk1 : ps.take (t + 1) = ps.take t ++ [ps[t]] := List.take_succ_eq_append_getElem htp
        have htk2 : qs.take (t + 1) = qs.take t ++ [qs[t]] := List.take_succ_eq_append_getElem htq
        generalize ps[t] = x at r1 hne htk1
        generalize qs[t] = y at r2 hne htk2
        have q := fun u => neqB u x y
        unfold FB at r1 r2 q
        have NE := Bx.mk hne; have T1 := Bx.mk htk1; have T2 := Bx.mk htk2
        clear l1 l2 hne htk1 htk2 htp htq
        have f1 : ¬ (l : Int) ≤ (t : Int) := by omega
        have f2 : (t : Int) < (l : Int) := by omega
        go_upto_region 6 with (fail)
        go_quiet (fail)
        generalize hwq : wr.drewN nq = W2
        have B2 := Bx.mk (show Below w.heap.size w W2 by rw [← hwq]; exact below_drewN B0.out nq)
        clear hwq r1 r2
        rw [cmpB x y]
        by_cases hxy : x = y
        · rw [decide_eq_true hxy]
          have HXY := Bx.mk hxy; clear hxy q
          go_wp2_with fail
          go_roundw
          case rel => exact ⟨t + 1, hlt, by go_num, by rw [T1.out, T2.out, HE.out, HXY.out], B2.out⟩
          case measure => simp [intOf]; omega
        · rw [decide_eq_false hxy]
          have HXY := Bx.mk (NE.out hxy); clear hxy q
          go_wp2_with fail
          go_ret
          exact ⟨by rw [HXY.out]; rfl, B2.out⟩
      · obtain rfl : t = l := by omega
        have hv : decide (ps = qs) = true := by
          have := HE.out
          rw [HL1.out, List.take_length, HL.out, List.take_length] at this
          rw [this]; simp
        have HV := Bx.mk hv; clear hv
        go_wp2_with fail
        go_ret
        exact ⟨by rw [HV.out]; rfl, B0.out⟩
  · have hv : decide (ps = qs) = false := by rw [decide_eq_false_iff_not]; exact fun e => hl (by rw [e])
    have HV := Bx.mk hv; clear hv
    have hl' : ¬ (ps.length : Int) = (qs.length : Int) := by omega
    have hl'' : ((ps.length : Int) == (qs.length : Int)) = false := beq_eq_false_iff_ne.2 hl'
    have hl3 : (ps.length == qs.length) = false := beq_eq_false_iff_ne.2 hl
    go_wp2_with fail
    go_ret
    exact ⟨by rw [HV.out]; rfl, Below.refl _ _⟩
theorem markB_any (w : World) : Calls Tryd.prog 31 #[.int .i64 7777] w fun e w' => e = .returned (FB markB) ∧ Below w.heap.size w w' := by
  go_enter Tryd.func31, Tryd.ntmps31
  go_wp2
  go_ret
  exact ⟨rfl, Below.refl _ _⟩
theorem isB_any (w : World) : Calls Tryd.prog 37 #[FB markB, .int .i64 7777] w fun e w' => e = .returned (.bool true) ∧ Below w.heap.size w w' := by
  have e : FB markB = .int .u8 128 := rfl
  rw [e]
  go_enter Tryd.func37, Tryd.ntmps37
  go_wp2
  go_ret
  exact ⟨rfl, Below.refl _ _⟩
set_option maxHeartbeats 1600000 in
theorem twinB_any (w : World) (ad : Option Addr) (n cap : Nat) (ps : List UInt8) (h : Ro FB w (.slice ad n cap) ps) (hm : ps.length ≤ 1048576) :
    Calls Tryd.prog 18 #[.slice ad n cap] w fun e w' => ∃ v, e = .returned v ∧ TwinR FB 5 markB w' v ps ∧ v.ownBlock = some w.heap.size ∧ Below w.heap.size w w' := by
  obtain ⟨_, _, e1, b1, b1'⟩ := h.len
  have hn1 : n = ps.length := by cases e1; rfl
  subst hn1
  obtain ⟨im, hi1, hi2⟩ := Option.map_eq_some_iff.1 infoBe
  simp only [Prod.mk.injEq] at hi2
  obtain ⟨hz, hsz, hby⟩ := hi2
  have mk : (Instr.makeSlice 30 (.int .i64 ((ps.length : Int) + 1)) (.int .i64 ((ps.length : Int) + 1))).run Tryd.prog w = .ok (.slice (some ⟨w.heap.size, 0, none⟩) (ps.length + 1) (ps.length + 1)) (w.alloc (.cells (rcells FB (fillL (0 : UInt8) ps 0)) 5)) := by
    have := run_make (P := Tryd.prog) w 30 5 im (.int .u8 0) underBs hi1 hz .i64 .i64 ((ps.length : Int) + 1) ((ps.length : Int) + 1) (by omega) (Int.le_refl _) (by rw [hby]; omega) (by omega)
    rw [this, hsz, show ((ps.length : Int) + 1).toNat = ps.length + 1 by omega, Nat.mul_one, ← made_fill FB]
    rfl
  have HH := Bx.mk h
  clear h e1 hi1 hz hsz hby
  have x0 : (w.alloc (.cells (rcells FB (fillL (0 : UInt8) ps 0)) 5)).heap[w.heap.size]? = some (.cells (rcells FB (fillL (0 : UInt8) ps 0)) 5 (0, 0)) := heap_alloc_new _ _
  have k0 : Below w.heap.size w (w.alloc (.cells (rcells FB (fillL (0 : UInt8) ps 0)) 5)) := (Below.refl _ _).alloc (Nat.le_refl _) _
  obtain ⟨l, hl⟩ : ∃ l, l = ps.length := ⟨_, rfl⟩
  rw [← hl] at mk hm b1 ⊢
  have HL := Bx.mk hl
  clear hl
  have d1 : IntKind.i64.wrap ((l : Int) + 1) = (l : Int) + 1 := by simp [IntKind.wrap, IntKind.bits, IntKind.signed]; omega
  go_enter Tryd.func18, Tryd.ntmps18
  go_upto_region 2 with (fail)
  generalize w.alloc (.cells (rcells FB (fillL (0 : UInt8) ps 0)) 5) = W at x0 k0 ⊢
  have X0 := Bx.mk x0; have K0 := Bx.mk k0
  clear x0 k0 mk d1
  obtain ⟨B, hB⟩ : ∃ B, B = w.heap.size := ⟨_, rfl⟩
  rw [← hB] at X0 K0 ⊢
  have HB := Bx.mk hB; clear hB
  go_wp2_with fail
  go_loopw [4] (fun i wr => ∃ t : Nat, t ≤ l ∧ i = .int .i64 (t : Int) ∧ wr.heap[B]? = some (.cells (rcells FB (fillL (0 : UInt8) ps t)) 5 (0, 0)) ∧ Below B w wr) (fun i _ => l - (intOf i).toNat)
  case atStart => exact ⟨0, Nat.zero_le _, rfl, X0.out, K0.out⟩
  case round =>
    obtain ⟨t, ht, rfl, hx, hb⟩ := hrel
    have HX := Bx.mk hx; have BB := Bx.mk hb
    clear hx hb X0 K0
    have f1 : ¬ (l : Int) + 1 ≤ (t : Int) := by omega
    have f2 : (t : Int) < (l : Int) + 1 := by omega
    by_cases hlt : t < l
    · have htp : t < ps.length := by rw [← HL.out]; exact hlt
      obtain ⟨B1, o1, rfl, l1, r1⟩ := (HH.out.below (HB.out ▸ BB.out)).at t htp
      have c0 := rcells_cell HX.out t (by rw [fillL_length _ _ _ (by omega)]; omega)
      have c1 := rcells_frozen HX.out t
      have x1 := rcells_store HX.out t ps[t]
      rw [fillL_set _ _ _ htp] at x1
      have X1 := Bx.mk x1; have HTP := Bx.mk htp
      generalize (fillL (0 : UInt8) ps t)[t]'(by rw [fillL_length _ _ _ (by have := HTP.out; omega)]; have := HTP.out; omega) = c at c0
      obtain ⟨x, hxe⟩ : ∃ x, x = ps[t]'HTP.out := ⟨_, rfl⟩
      rw [← hxe] at X1 r1
      unfold FB at r1 c0
      clear x1 l1 hxe htp
      have f3 : ¬ (l : Int) ≤ (t : Int) := by omega
      have f4 : (t : Int) < (l : Int) := by omega
      go_wp2_with fail
      go_roundw
      case rel => exact ⟨t + 1, hlt, by go_num, X1.out, BB.out.setCell (Nat.le_refl _) _⟩
      case measure => simp [intOf]; omega
    · obtain rfl : t = l := by omega
      have cm := markB_any wr
      unfold FB at cm
      have CMK := Bx.mk cm; clear cm
      go_wp2_with fail
      refine CMK.out.mono ?_
      rintro e w1 ⟨rfl, hb⟩
      have hx1 := (hb.block B (Array.getElem?_eq_some_iff.1 HX.out).1).trans HX.out
      have BB1 := Bx.mk (BB.out.trans (hb.mono (Nat.le_of_lt (Nat.lt_of_le_of_lt (Nat.le_refl _) (Array.getElem?_eq_some_iff.1 HX.out).1))))
      have c0 := rcells_cell hx1 t (by rw [HL.out, fillL_length _ _ _ (Nat.le_refl _)]; omega)
      have c1 := rcells_frozen hx1 t
      have x1 := rcells_store hx1 t markB
      have e1 : (fillL (0 : UInt8) ps t).set t markB = ps ++ [markB] := by rw [HL.out]; exact fillL_last _ _ _
      rw [e1] at x1
      have X1 := Bx.mk x1
      generalize (fillL (0 : UInt8) ps t)[t]'(by rw [HL.out, fillL_length _ _ _ (Nat.le_refl _)]; omega) = c at c0
      unfold FB at c0
      clear x1 hx1 e1 hb
      go_wp2_with fail
      go_ret
      exact ⟨_, rfl, ⟨B, by rw [← HL.out]; rfl, X1.out⟩, by rw [← HB.out]; rfl, by rw [← HB.out]; exact BB1.out.setCell (Nat.le_refl _) _⟩
set_option maxHeartbeats 1600000 in
theorem leftB_any (w : World) (v : Value) (ps : List UInt8) (ad : Option Addr) (n cap : Nat) (h1 : TwinR FB 5 markB w v ps) (h2 : Ro FB w (.slice ad n cap) ps) (hm : ps.length ≤ 1048576) :
    Calls Tryd.prog 25 #[v, .slice ad n cap] w fun e w' => e = .returned (.bool true) ∧ Below w.heap.size w w' := by
  obtain ⟨_, _, e1, b1, b1'⟩ := h2.len
  have hn1 : n = ps.length := by cases e1; rfl
  subst hn1
  have hr := h1.ro (by unfold maxLen; omega)
  obtain ⟨B, rfl, hB⟩ := h1
  have cs := sameB_any w _ _ _ ps _ _ _ ps hr h2
  rw [show decide (ps = ps) = true by simp] at cs
  have CS := Bx.mk cs; have HBX := Bx.mk hB
  clear cs hB e1 h2 hr
  obtain ⟨l, hl⟩ : ∃ l, l = ps.length := ⟨_, rfl⟩
  rw [← hl] at CS hm ⊢
  have HL := Bx.mk hl; clear hl
  have d1 : IntKind.i64.wrap ((l : Int) + 1) = (l : Int) + 1 := by simp [IntKind.wrap, IntKind.bits, IntKind.signed]; omega
  go_enter Tryd.func25, Tryd.ntmps25
  go_wp2_with fail
  refine CS.out.mono ?_
  rintro e w1 ⟨rfl, hb⟩
  have hx1 := (hb.block B (Array.getElem?_eq_some_iff.1 HBX.out).1).trans HBX.out
  have c0 := rcells_cell hx1 l (by rw [HL.out, List.length_append, List.length_singleton]; omega)
  have e0 : (ps ++ [markB])[l]'(by rw [HL.out, List.length_append, List.length_singleton]; omega) = markB := by
    rw [List.getElem_append_right (by rw [HL.out]; exact Nat.le_refl _)]
    simp
  rw [e0] at c0
  have ci := isB_any w1
  unfold FB at ci c0
  have CI := Bx.mk ci
  clear ci
  have B1 := Bx.mk hb; clear hb hx1 e0
  have f1 : ¬ (l : Int) + 1 ≤ (l : Int) := by omega
  have f2 : (l : Int) < (l : Int) + 1 := by omega
  go_wp2_with fail
  refine CI.out.mono ?_
  rintro e w2 ⟨rfl, hb⟩
  have B2 := Bx.mk (B1.out.trans (hb.mono B1.out.size)); clear hb
  go_wp2_with fail
  go_ret
  exact ⟨rfl, B2.out⟩
end Go.Proofs.YtfoknhogclfhhaaDoor
