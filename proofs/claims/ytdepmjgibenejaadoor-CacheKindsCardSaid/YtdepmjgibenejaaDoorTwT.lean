/- cartularylaw01.SameTexts, TwinTexts, LeftTexts. -/
import Derived.Test.YtdepmjgibenejaaDoorRow1
namespace Go.Proofs.YtdepmjgibenejaaDoor
set_option maxRecDepth 100000
open Go.RowKit
def FT (x : ByteArray) : Value := .string x
theorem underTs : Tryd.prog.underlying 62 = some (.slice 9) := by kernel_rfl
theorem infoTe : (Tryd.prog.info? 9).map (fun i => (i.zero, i.size, i.bytes)) = some (some (.string ⟨#[]⟩), 1, 16) := by kernel_rfl
def markT : ByteArray := ⟨#[35, 55, 55, 55, 55]⟩
theorem eqlT (x y : ByteArray) : (x.toList == y.toList) = decide (x = y) := by
  rw [Bool.eq_iff_iff, beq_iff_eq, decide_eq_true_iff, ByteArray.toList_eq, ByteArray.toList_eq]
  constructor
  · intro h
    have h2 := Array.ext' h
    cases x; cases y
    simp only at h2
    rw [h2]
  · intro h; rw [h]
theorem neqT (w : World) (x y : ByteArray) : (binOp .neq 9 (FT x) (FT y)).run Tryd.prog w = .ok (.bool (!decide (x = y))) w := by
  unfold FT
  go_simp
  rw [eqlT]
theorem cmpT (x y : ByteArray) : (!(x.toList == y.toList)) = !decide (x = y) := by rw [eqlT]
set_option maxHeartbeats 1600000 in
theorem sameT_any (w : World) (a1 : Option Addr) (n1 c1 : Nat) (ps : List ByteArray) (a2 : Option Addr) (n2 c2 : Nat) (qs : List ByteArray) (h1 : Ro FT w (.slice a1 n1 c1) ps) (h2 : Ro FT w (.slice a2 n2 c2) qs) :
    Calls Tryd.prog 20 #[.slice a1 n1 c1, .slice a2 n2 c2] w fun e w' => e = .returned (.bool (decide (ps = qs))) ∧ Below w.heap.size w w' := by
  obtain ⟨_, _, e1, b1, b1'⟩ := h1.len
  obtain ⟨_, _, e2, b2, b2'⟩ := h2.len
  have hn1 : n1 = ps.length := by cases e1; rfl
  have hn2 : n2 = qs.length := by cases e2; rfl
  subst hn1; subst hn2
  have H1 := Bx.mk h1; have H2 := Bx.mk h2
  clear h1 h2 e1 e2
  go_enter Tryd.func20, Tryd.ntmps20
  by_cases hl : ps.length = qs.length
  · obtain ⟨l, hl1⟩ : ∃ l, l = ps.length := ⟨_, rfl⟩
    have hlb : l ≤ 9223372036854775807 := by omega
    rw [← hl, ← hl1]
    have HL := Bx.mk hl; have HL1 := Bx.mk hl1
    clear hl hl1
    go_wp2_with fail
    go_loopw [5] (fun i wr => ∃ t : Nat, t ≤ l ∧ i = .int .i64 (t : Int) ∧ ps.take t = qs.take t ∧ Below w.heap.size w wr) (fun i _ => l - (intOf i).toNat)
    case atStart => exact ⟨0, Nat.zero_le _, rfl, rfl, Below.refl _ _⟩
    case round =>
      obtain ⟨t, ht, rfl, heq, hb⟩ := hrel
      have HE := Bx.mk heq; have B0 := Bx.mk hb; clear heq hb
      by_cases hlt : t < l
      · have htp : t < ps.length := by rw [← HL1.out]; exact hlt
        have htq : t < qs.length := by rw [← HL.out, ← HL1.out]; exact hlt
        obtain ⟨B1, o1, rfl, l1, r1⟩ := (H1.out.below B0.out).at t htp
        obtain ⟨B2, o2, rfl, l2, r2⟩ := (H2.out.below B0.out).at t htq
        have hne : ¬ ps[t] = qs[t] → decide (ps = qs) = false := fun h => by
          rw [decide_eq_false_iff_not]
          intro e
          subst e
          exact h rfl
        have htk1 : ps.take (t + 1) = ps.take t ++ [ps[t]] := List.take_succ_eq_append_getElem htp
        have htk2 : qs.take (t + 1) = qs.take t ++ [qs[t]] := List.take_succ_eq_append_getElem htq
        generalize ps[t] = x at r1 hne htk1
        generalize qs[t] = y at r2 hne htk2
        have q := fun u => neqT u x y
        unfold FT at r1 r2 q
        have NE := Bx.mk hne; have T1 := Bx.mk htk1; have T2 := Bx.mk htk2
        clear l1 l2 hne htk1 htk2 htp htq
        have f1 : ¬ (l : Int) ≤ (t : Int) := by omega
        have f2 : (t : Int) < (l : Int) := by omega
        go_upto_region 6 with (fail)
        go_quiet (fail)
        generalize hwq : wr.drewN nq = W2
        have B2 := Bx.mk (show Below w.heap.size w W2 by rw [← hwq]; exact below_drewN B0.out nq)
        clear hwq r1 r2
        rw [cmpT x y]
        by_cases hxy : x = y
        · rw [decide_eq_true hxy]
          have HXY := Bx.mk hxy; clear hxy q
          go_wp2_with fail
          go_roundw
          case rel => exact ⟨t + 1, hlt, by go_num, by rw [T1.out, T2.out, HE.out, HXY.out], B2.out⟩
          case measure => simp [intOf]; omega
        · rw [decide_eq_false hxy]
          have HXY := Bx.mk (NE.out hxy); clear hxy q
          go_wp2_with fail
          go_ret
          exact ⟨by rw [HXY.out]; rfl, B2.out⟩
      · obtain rfl : t = l := by omega
        have hv : decide (ps = qs) = true := by
          have := HE.out
          rw [HL1.out, List.take_length, HL.out, List.take_length] at this
          rw [this]; simp
        have HV := Bx.mk hv; clear hv
        go_wp2_with fail
        go_ret
        exact ⟨by rw [HV.out]; rfl, B0.out⟩
  · have hv : decide (ps = qs) = false := by rw [decide_eq_false_iff_not]; exact fun e => hl (by rw [e])
    have HV := Bx.mk hv; clear hv
    have hl' : ¬ (ps.length : Int) = (qs.length : Int) := by omega
    have hl'' : ((ps.length : Int) == (qs.length : Int)) = false := beq_eq_false_iff_ne.2 hl'
    have hl3 : (ps.length == qs.length) = false := beq_eq_false_iff_ne.2 hl
    go_wp2_with fail
    go_ret
    exact ⟨by rw [HV.out]; rfl, Below.refl _ _⟩
end Go.Proofs.YtdepmjgibenejaaDoor
