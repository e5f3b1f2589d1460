/- An error at a place; an error beside what the document tells (cartularylaw01.IsAt, Same). -/
import Derived.Test.YtdepmjgibenejaaGreatDoorErrC
namespace Go.Proofs.YtdepmjgibenejaaGreatDoor
set_option maxRecDepth 100000
open Go.RowKit
theorem ErrV.code_pos {W : World} {A : Nat → Addr} {u : TypeId} {x : Value} {c : Int} {p : Option Int} (h : ErrV W A (.iface u x) c p) : 0 < c := by
  cases h with
  | plain k hk => omega
  | fault k b o n hk _ _ => omega
set_option maxHeartbeats 1600000 in
/-- cartularylaw01.IsAt -/
theorem isAt_any {W : World} {A : Nat → Addr} (hE : Errs W A) {v : Value} {c : Int} {p : Option Int} (h : ErrV W A v c p) (q at' : Int) :
    Calls Tryz.prog 28 #[v, .int .i64 q, .int .i64 at'] W fun e w' => e = .returned (.bool (if q = 0 then decide (c = 0) else decide (c = q ∧ p = some at'))) ∧ Below W.heap.size W w' := by
  by_cases hq : q = 0
  · subst hq
    rw [if_pos rfl]
    cases h with
    | no =>
      clear hE
      go_enter Tryz.func28, Tryz.ntmps28
      go_wp2_with fail
      go_ret
      exact ⟨rfl, Below.refl _ _⟩
    | plain k hk =>
      clear hE
      rw [decide_eq_false (by omega)]
      go_enter Tryz.func28, Tryz.ntmps28
      go_wp2_with fail
      go_ret
      exact ⟨rfl, Below.refl _ _⟩
    | fault k b o n hk h1 h2 =>
      clear hE h1 h2
      rw [decide_eq_false (by omega)]
      go_enter Tryz.func28, Tryz.ntmps28
      go_wp2_with fail
      go_ret
      exact ⟨rfl, Below.refl _ _⟩
  · rw [if_neg hq]
    have h1 := code_any hE h
    have h2 := fun w (k : Below W.heap.size W w) => at_any (hE.below k) (h.below k)
    have H1 := Bx.mk h1; have H2 := Bx.mk h2
    clear h1 h2 hE h
    by_cases hc : c = q
    · subst hc
      generalize hpn : p.getD 0 = n at H2
      generalize hps : p.isSome = s at H2
      have hr : decide (c = c ∧ p = some at') = (s && decide (n = at')) := by
        cases p with
        | none => simp at hps; subst hps; simp
        | some y => simp at hps hpn; subst hps hpn; simp
      rw [hr]
      clear hr hpn hps
      go_enter Tryz.func28, Tryz.ntmps28
      go_wp2_with fail
      refine H1.out.mono ?_
      rintro e w1 ⟨rfl, hb⟩
      have B1 := Bx.mk hb; clear hb
      go_wp2_with fail
      refine (H2.out w1 B1.out).mono ?_
      rintro e w2 ⟨rfl, hb⟩
      have B2 := Bx.mk (B1.out.trans (hb.mono B1.out.size)); clear hb
      cases s with
      | true =>
        go_wp2_with fail
        go_ret
        exact ⟨by simp; rfl, B2.out⟩
      | false =>
        go_wp2_with fail
        go_ret
        exact ⟨rfl, B2.out⟩
    · rw [decide_eq_false (fun h => hc h.1)]
      clear H2
      have hc' : (c != q) = true := by simpa using hc
      go_enter Tryz.func28, Tryz.ntmps28
      go_wp2_with fail
      refine H1.out.mono ?_
      rintro e w1 ⟨rfl, hb⟩
      have B1 := Bx.mk hb; clear hb
      go_wp2_with fail
      go_ret
      exact ⟨rfl, B1.out⟩
set_option maxHeartbeats 1600000 in
/-- cartularylaw01.Same -/
theorem same_err {W : World} {A : Nat → Addr} (hE : Errs W A) {v : Value} {c : Int} {p : Option Int} (h : ErrV W A v c p) (fc fa : Int) :
    Calls Tryz.prog 15 #[v, .agg #[.int .i64 fc, .int .i64 fa]] W fun e w' =>
      e = .returned (.bool (if fa = -1 then decide (c = fc) && (p.getD 0 == 0 || !p.isSome) else if fc = 0 then decide (c = 0) else decide (c = fc ∧ p = some fa))) ∧ Below W.heap.size W w' := by
  have kb := er_al (Below.refl W.heap.size W) (.cells #[.int .i64 fc, .int .i64 fa] 35)
  by_cases hf : fa = -1
  · subst hf
    rw [if_pos rfl]
    have h1 := isE_any (hE.below kb) (h.below kb) fc
    have H1 := Bx.mk h1; have KB := Bx.mk kb; clear h1 hE h kb
    go_enter Tryz.func15, Tryz.ntmps15
    go_wp2_with fail
    refine H1.out.mono ?_
    rintro e w1 ⟨rfl, hb⟩
    have B1 := Bx.mk (KB.out.trans (hb.mono KB.out.size)); clear hb
    go_wp2_with fail
    go_ret
    exact ⟨by simp, B1.out⟩
  · rw [if_neg hf]
    have h1 := isAt_any (hE.below kb) (h.below kb) fc fa
    have hf' : (fa == -1) = false := by simpa using hf
    generalize (if fc = 0 then decide (c = 0) else decide (c = fc ∧ p = some fa)) = r at h1 ⊢
    have H1 := Bx.mk h1; have KB := Bx.mk kb; clear h1 hE h kb
    go_enter Tryz.func15, Tryz.ntmps15
    go_wp2_with fail
    refine H1.out.mono ?_
    rintro e w1 ⟨rfl, hb⟩
    have B1 := Bx.mk (KB.out.trans (hb.mono KB.out.size)); clear hb
    go_wp2_with fail
    go_ret
    exact ⟨rfl, B1.out⟩
end Go.Proofs.YtdepmjgibenejaaGreatDoor
