/- The document's own answer for Of, walked. -/
import Derived.Test.YtifnmidecjmmnaaDoorCoS
namespace Go.Proofs.YtifnmidecjmmnaaDoor
open Go.RowKit
/-- is this level the one of the stretch's tree -/
def OfT (B E k : Nat) : Prop := mayB k (B / 2 ^ k) = true ∧ spB k (B / 2 ^ k) = B ∧ spE k (B / 2 ^ k) = E
theorem ofT_end {B E k : Nat} (h : OfT B E k) : ofK B E = true ∧ ofL B E = k ∧ ofI B E = B / 2 ^ k := by
  obtain ⟨h1, h2, h3⟩ := h
  obtain ⟨s1, s2⟩ := sp_of h1
  have := of_tree h1
  rw [← s1, ← s2, h2, h3] at this
  exact this
theorem ofT_none {B E : Nat} (h : ∀ j, j < 64 → ¬ OfT B E j) : ofK B E = false := by
  cases hk : ofK B E
  · rfl
  · obtain ⟨h1, h2, h3⟩ := of_span hk
    have hL := ((mayB_iff _ _).1 h1).1
    refine absurd ⟨?_, ?_, ?_⟩ (h (ofL B E) (by omega))
    all_goals
      have hi : B / 2 ^ ofL B E = ofI B E := by
        obtain ⟨s1, _⟩ := sp_of h1
        rw [h2] at s1
        exact (congrArg (· / 2 ^ ofL B E) s1).trans (Nat.mul_div_cancel _ (Nat.two_pow_pos _))
      rw [hi]
    · exact h1
    · exact h2
    · exact h3
set_option maxHeartbeats 1600000 in
set_option maxRecDepth 100000 in
theorem rof_any (w : World) (B E : Nat) (hB : B < 2 ^ 64) : Calls Tryd.prog 22 #[sv B E] w fun e w' => e = .returned (.tuple #[cv (ofL B E) (ofI B E), .bool (ofK B E)]) ∧ Below w.heap.size w w' := by
  have k0 : Below w.heap.size w ((w.alloc (.cells #[.int .u64 (B : Int), .int .u64 (E : Int)] 36)).alloc (.cells #[.int .u8 0, .int .u64 0] 24)) := (below_new _ _).alloc (by simp) _
  have m1 : At ((w.alloc (.cells #[.int .u64 (B : Int), .int .u64 (E : Int)] 36)).alloc (.cells #[.int .u8 0, .int .u64 0] 24)) w.heap.size 36 (.int .u64 (B : Int)) (.int .u64 (E : Int)) := (At.new _ _ _ _).alloc _
  have m2 : At ((w.alloc (.cells #[.int .u64 (B : Int), .int .u64 (E : Int)] 36)).alloc (.cells #[.int .u8 0, .int .u64 0] 24)) (w.heap.size + 1) 24 (.int .u8 0) (.int .u64 0) := heap_alloc2_new _ _ _
  have K0 := Bx.mk k0; have M1 := Bx.mk m1; have M2 := Bx.mk m2
  clear k0 m1 m2
  unfold sv cv
  go_enter Tryd.func22, Tryd.ntmps22
  go_wp2_with fail
  go_loopg [4] 64 (fun k i wr => ∃ t : Nat, k = 64 - t ∧ t ≤ 64 ∧ i = .int .i64 (t : Int) ∧ (∀ j, j < t → ¬ OfT B E j) ∧ At wr w.heap.size 36 (.int .u64 (B : Int)) (.int .u64 (E : Int)) ∧ At wr (w.heap.size + 1) 24 (.int .u8 0) (.int .u64 0) ∧ Below w.heap.size w wr)
  case atStart => exact ⟨0, rfl, by omega, rfl, fun j hj => absurd hj (Nat.not_lt_zero _), M1.out, M2.out, K0.out⟩
  case round =>
    obtain ⟨t, hk, ht, rfl, hno, m1, m2, hb⟩ := hrel
    have HK := Bx.mk hk; have NO := Bx.mk hno; have HB := Bx.mk hb
    clear hk hno hb M1 M2 K0
    obtain ⟨a1, a2, a3, a4⟩ := m1.cells
    obtain ⟨b1, b2, b3, b4⟩ := m2.cells
    have M1 := Bx.mk m1; have M2 := Bx.mk m2
    clear m1 m2
    by_cases hlt : t ≤ 63
    · have hc := fun w => rspan_any w t (B / 2 ^ t)
      unfold cv sv at hc
      rw [← div_pow_nat] at hc
      have HC := Bx.mk hc; clear hc
      go_wp2_with fail
      refine (HC.out _).mono ?_
      rintro e w1 ⟨rfl, hb1⟩
      have m1 := ((M1.out.alloc (.cells #[.int .u8 (t : Int), .int .u64 ((B : Int) / 2 ^ t)] 24)).below hb1).alloc (.cells #[.int .u64 (spB t (B / 2 ^ t) : Int), .int .u64 (spE t (B / 2 ^ t) : Int)] 36)
      have m2 := ((M2.out.alloc (.cells #[.int .u8 (t : Int), .int .u64 ((B : Int) / 2 ^ t)] 24)).below hb1).alloc (.cells #[.int .u64 (spB t (B / 2 ^ t) : Int), .int .u64 (spE t (B / 2 ^ t) : Int)] 36)
      have m3 := ((At.new wr 24 (.int .u8 (t : Int)) (.int .u64 ((B : Int) / 2 ^ t))).below hb1).alloc (.cells #[.int .u64 (spB t (B / 2 ^ t) : Int), .int .u64 (spE t (B / 2 ^ t) : Int)] 36)
      have m4 := At.new w1 36 (.int .u64 (spB t (B / 2 ^ t) : Int)) (.int .u64 (spE t (B / 2 ^ t) : Int))
      have hb2 := (HB.out.alloc HB.out.size (.cells #[.int .u8 (t : Int), .int .u64 ((B : Int) / 2 ^ t)] 24))
      have hb3 := hb2.trans (hb1.mono hb2.size)
      have hb4 := hb3.alloc hb3.size (.cells #[.int .u64 (spB t (B / 2 ^ t) : Int), .int .u64 (spE t (B / 2 ^ t) : Int)] 36)
      obtain ⟨a1, a2, a3, a4⟩ := m1.cells
      obtain ⟨b1, b2, b3, b4⟩ := m2.cells
      obtain ⟨c1, c2, c3, c4⟩ := m3.cells
      obtain ⟨d1, d2, d3, d4⟩ := m4.cells
      have M1 := Bx.mk m1; have M2 := Bx.mk m2; have HB := Bx.mk hb4
      have hq := fun w => sv_eql w (spB t (B / 2 ^ t)) (spE t (B / 2 ^ t)) B E
      have hT : (mayB t (B / 2 ^ t) = true ∧ (spB t (B / 2 ^ t) = B ∧ spE t (B / 2 ^ t) = E)) ↔ OfT B E t := Iff.rfl
      have HT := Bx.mk hT
      clear hb1 hb2 hb3 hb4 m1 m2 m3 m4 hT
      go_upto_region 6 with (fail)
      change Code.wp _ _ _ _ (w1.alloc (.cells #[.int .u64 (spB t (B / 2 ^ t) : Int), .int .u64 (spE t (B / 2 ^ t) : Int)] 36))
      generalize w1.alloc (.cells #[.int .u64 (spB t (B / 2 ^ t) : Int), .int .u64 (spE t (B / 2 ^ t) : Int)] 36) = V at *
      generalize spB t (B / 2 ^ t) = p at *
      generalize spE t (B / 2 ^ t) = q at *
      generalize hmy : mayB t (B / 2 ^ t) = my at *
      clear hmy
      have next : ¬ OfT B E t → ∀ j, j < t + 1 → ¬ OfT B E j := fun h j hj => by
        rcases Nat.lt_or_ge j t with h1 | h1
        · exact NO.out j h1
        · obtain rfl : j = t := by omega
          exact h
      have NX := Bx.mk next; clear next
      by_cases hT : OfT B E t
      · obtain ⟨rfl, rfl, rfl⟩ := HT.out.2 hT
        rw [decide_eq_true ⟨rfl, rfl⟩] at hq
        have HE := Bx.mk (ofT_end hT)
        clear hT HT NX
        go_wp2_with fail
        refine bodyPost_ret (res_two rfl _ _ (w.heap.size + 1) _ _ _ _ rfl (two_set M2.out _ _) Tryd.underlying24 sizeC) rfl ⟨?_, (HB.out.setCell (Nat.le_succ _) _).setCell (Nat.le_succ _) _⟩
        obtain ⟨e1, e2, e3⟩ := HE.out
        rw [e1, e2, e3, div_pow_nat]
        rfl
      · have NH := Bx.mk hT
        cases my
        · clear hT
          go_wp2_with fail
          go_roundg (64 - (t + 1))
          case measure => have := HK.out; omega
          case rel => exact ⟨t + 1, rfl, by omega, by simp, NX.out NH.out, M1.out, M2.out, HB.out⟩
        · rw [decide_eq_false (fun h => hT (HT.out.1 ⟨rfl, h⟩))] at hq
          clear hT
          go_wp2_with fail
          go_roundg (64 - (t + 1))
          case measure => have := HK.out; omega
          case rel => exact ⟨t + 1, rfl, by omega, by simp, NX.out NH.out, M1.out, M2.out, HB.out⟩
    · obtain rfl : t = 64 := by omega
      go_wp2_with fail
      refine bodyPost_ret (res_two rfl _ _ (w.heap.size + 1) _ _ _ _ rfl (two_set M2.out _ _) Tryd.underlying24 sizeC) rfl ⟨?_, (HB.out.setCell (Nat.le_succ _) _).setCell (Nat.le_succ _) _⟩
      have hk := ofT_none NO.out
      rw [show ofL B E = 0 by unfold ofL; rw [if_neg (by rw [hk]; decide)], show ofI B E = 0 by unfold ofI; rw [if_neg (by rw [hk]; decide)], hk]
      rfl
end Go.Proofs.YtifnmidecjmmnaaDoor
