/- The document's way to a cover's next tree: every level is tried; plain. The document's own Cover, walked. -/
import Derived.Test.YtgbafjmklefoiaaGreatDoorZ01
import Derived.Test.YtgbafjmklefoiaaGreatDoorZ20
import Derived.Test.YtgbafjmklefoiaaGreatDoorZ17
import Derived.Test.YtgbafjmklefoiaaGreatDoorZ07
section
namespace Go.Proofs.YtgbafjmklefoiaaGreatDoor
theorem lvl_iff {a E L : Nat} (h : a < E) (he : E ≤ 2 ^ 63) (hL : L ≤ 63) : (mayB L (a / 2 ^ L) = true ∧ spB L (a / 2 ^ L) = a ∧ spE L (a / 2 ^ L) ≤ E) ↔ L ≤ lvl a E := by
  obtain ⟨a1, a2, a3, a4⟩ := lvl_spec h he
  constructor
  · rintro ⟨h1, h2, h3⟩
    obtain ⟨s1, s2⟩ := sp_of h1
    have hd : a / 2 ^ L * 2 ^ L = a := s1.symm.trans h2
    refine a4 L ⟨a / 2 ^ L, by rw [Nat.mul_comm]; exact hd.symm⟩ ?_
    rw [s2, Nat.succ_mul, hd] at h3
    exact h3
  · intro hle
    have hd : 2 ^ L ∣ a := Nat.dvd_trans (Nat.pow_dvd_pow 2 hle) a2
    have hm : a / 2 ^ L * 2 ^ L = a := Nat.div_mul_cancel hd
    have hp : 2 ^ L ≤ 2 ^ lvl a E := Nat.pow_le_pow_right (by decide) hle
    have hmay : mayB L (a / 2 ^ L) = true := may_of_end hL (by rw [Nat.succ_mul, hm]; omega)
    obtain ⟨s1, s2⟩ := sp_of hmay
    exact ⟨hmay, s1.trans hm, by rw [s2, Nat.succ_mul, hm]; omega⟩
end Go.Proofs.YtgbafjmklefoiaaGreatDoor
end
section
namespace Go.Proofs.YtgbafjmklefoiaaGreatDoor
open Go.RowKit
set_option maxRecDepth 100000
theorem faultZ : (Tryz.prog.info? 75).map (·.size) = some 2 := by kernel_rfl
set_option maxHeartbeats 1600000 in
theorem rcover_bad (w : World) (B E : Nat) (hbad : E < B ∨ 9223372036854775808 < E) :
    Calls Tryz.prog 83 #[sv B E] w fun e w' => e = .returned (.tuple #[.slice none 0 0, .agg #[.int .i64 5, .int .i64 (-1)]]) ∧ Below w.heap.size w w' := by
  have k0 : Below w.heap.size w ((w.alloc (.cells #[.int .u64 (B : Int), .int .u64 (E : Int)] 54)).alloc (.cells #[.int .i64 0, .int .i64 0] 75)) := (below_new _ _).alloc (by simp) _
  have m1 : At ((w.alloc (.cells #[.int .u64 (B : Int), .int .u64 (E : Int)] 54)).alloc (.cells #[.int .i64 0, .int .i64 0] 75)) w.heap.size 54 (.int .u64 (B : Int)) (.int .u64 (E : Int)) := (At.new _ _ _ _).alloc _
  have m2 : At ((w.alloc (.cells #[.int .u64 (B : Int), .int .u64 (E : Int)] 54)).alloc (.cells #[.int .i64 0, .int .i64 0] 75)) (w.heap.size + 1) 75 (.int .i64 0) (.int .i64 0) := heap_alloc2_new _ _ _
  obtain ⟨a1, a2, a3, a4⟩ := m1.cells
  have K0 := Bx.mk k0; have M2 := Bx.mk m2
  clear k0 m1 m2
  have cp := fun w => plainP_any w 5 (by decide)
  have CP := Bx.mk cp; clear cp
  unfold sv
  go_enter Tryz.func83, Tryz.ntmps83
  go_upto_region 1 with (fail)
  change Code.wp _ _ _ _ ((w.alloc (.cells #[.int .u64 (B : Int), .int .u64 (E : Int)] 54)).alloc (.cells #[.int .i64 0, .int .i64 0] 75))
  generalize (w.alloc (.cells #[.int .u64 (B : Int), .int .u64 (E : Int)] 54)).alloc (.cells #[.int .i64 0, .int .i64 0] 75) = W at K0 M2 a1 a2 a3 a4 ⊢
  by_cases c1 : (E : Int) < (B : Int)
  all_goals
    try (have c2 : (9223372036854775808 : Int) < (E : Int) := by omega)
    clear hbad
    go_wp2_with fail
    refine (CP.out _).mono ?_
    rintro e w1 ⟨rfl, hb⟩
    have m2 := M2.out.below hb
    obtain ⟨b1, b2, b3, b4⟩ := m2.cells
    have B1 := Bx.mk (K0.out.trans (hb.mono K0.out.size)); have M3 := Bx.mk m2
    clear hb m2
    go_wp2_with fail
    refine bodyPost_ret (res_tf rfl _ _ (w.heap.size + 1) _ _ _ _ rfl (two_setC M3.out _ _) Tryz.underlying75 faultZ) rfl ⟨rfl, (B1.out.setCell (Nat.le_succ _) _).setCell (Nat.le_succ _) _⟩
set_option maxHeartbeats 3200000 in
theorem rcover_any (w : World) (B E : Nat) (hBE : B ≤ E) (hE : E ≤ 2 ^ 63) :
    Calls Tryz.prog 83 #[sv B E] w fun e w' => ∃ v, e = .returned (.tuple #[v, .agg #[.int .i64 0, .int .i64 0]]) ∧ CoverR w w' v (coverN B E) := by
  have k0 : Below w.heap.size w ((w.alloc (.cells #[.int .u64 (B : Int), .int .u64 (E : Int)] 54)).alloc (.cells #[.int .i64 0, .int .i64 0] 75)) := (below_new _ _).alloc (by simp) _
  have m1 : At ((w.alloc (.cells #[.int .u64 (B : Int), .int .u64 (E : Int)] 54)).alloc (.cells #[.int .i64 0, .int .i64 0] 75)) w.heap.size 54 (.int .u64 (B : Int)) (.int .u64 (E : Int)) := (At.new _ _ _ _).alloc _
  have m2 : At ((w.alloc (.cells #[.int .u64 (B : Int), .int .u64 (E : Int)] 54)).alloc (.cells #[.int .i64 0, .int .i64 0] 75)) (w.heap.size + 1) 75 (.int .i64 0) (.int .i64 0) := heap_alloc2_new _ _ _
  obtain ⟨a1, a2, a3, a4⟩ := m1.cells
  obtain ⟨N, hN⟩ : ∃ N, N = w.heap.size := ⟨_, rfl⟩
  have hs0 : ((w.alloc (.cells #[.int .u64 (B : Int), .int .u64 (E : Int)] 54)).alloc (.cells #[.int .i64 0, .int .i64 0] 75)).heap.size = N + 2 := by rw [hN]; simp
  have K0 := Bx.mk k0; have M1 := Bx.mk m1; have M2 := Bx.mk m2; have HS0 := Bx.mk hs0
  clear k0 m1 m2 hs0
  obtain ⟨i0, hi, hz0, hz1, hz2⟩ := info_parts infoC
  have HI := Bx.mk hi; have HZ := Bx.mk hz0
  clear hi hz0
  have hd1 : decide (E < B) = false := decide_eq_false (by omega)
  have hd2 : decide ((9223372036854775808 : Int) < (E : Int)) = false := decide_eq_false (by omega)
  unfold sv
  go_enter Tryz.func83, Tryz.ntmps83
  go_upto_region 1 with (fail)
  change Code.wp _ _ _ _ ((w.alloc (.cells #[.int .u64 (B : Int), .int .u64 (E : Int)] 54)).alloc (.cells #[.int .i64 0, .int .i64 0] 75))
  generalize (w.alloc (.cells #[.int .u64 (B : Int), .int .u64 (E : Int)] 54)).alloc (.cells #[.int .i64 0, .int .i64 0] 75) = W at K0 M1 M2 HS0 a1 a2 a3 a4 ⊢
  rw [← hN] at K0 M1 M2 a1 a2 a3 a4 ⊢
  have HN := Bx.mk hN; clear hN
  go_wp2_with fail
  go_loopg [4, 5] (E - B) (fun k v at' wr => ∃ (a : Nat) (cs : List (Nat × Nat)), k = E - a ∧ a ≤ E ∧ at' = .int .u64 (a : Int) ∧ cs ++ coverN a E = coverN B E ∧ wr.ownsRow (N + 2) 103 2 v cs.length (ccells cs) ∧ Below (N + 2) W wr)
  case atStart => exact ⟨B, [], rfl, hBE, rfl, rfl, World.ownsRow_nil _ _ _ _, by rw [← HS0.out]; exact Below.refl _ _⟩
  case round =>
    obtain ⟨a, cs, hk, ha, rfl, hcs, hown, hb⟩ := hrel
    obtain ⟨wo, rfl⟩ : ∃ wo, wo = wr := ⟨_, rfl⟩
    have HK := Bx.mk hk; have HC := Bx.mk hcs; have HO := Bx.mk hown; have HB := Bx.mk hb
    have m1 : At wo N 54 (.int .u64 (B : Int)) (.int .u64 (E : Int)) := (hb.block N (by omega)).trans M1.out
    have m2 : At wo (N + 1) 75 (.int .i64 0) (.int .i64 0) := (hb.block (N + 1) (by omega)).trans M2.out
    have hws : N + 2 ≤ wo.heap.size := by rw [← HS0.out]; exact hb.size
    obtain ⟨c1, c2, c3, c4⟩ := m1.cells
    have MO1 := Bx.mk m1; have MO2 := Bx.mk m2; have WS := Bx.mk hws
    clear hk hcs hown hb a1 a2 a3 a4 m1 m2 hws
    by_cases hlt : a < E
    · have ALT := Bx.mk hlt
      obtain ⟨l1, l2, l3, _⟩ := lvl_spec hlt hE
      obtain ⟨V, hV⟩ : ∃ V, V = lvl a E := ⟨_, rfl⟩
      rw [← hV] at l1 l2 l3
      have HV := Bx.mk hV; have LV := Bx.mk l1; have L2 := Bx.mk l2; have L3 := Bx.mk l3
      clear hV l1 l2 l3
      have n1 := At.new wo 103 (.int .u8 0) (.int .u64 (a : Int))
      have nb := er_al (Below.refl wo.heap.size wo) (.cells #[.int .u8 0, .int .u64 (a : Int)] 103)
      go_upto_region 7 with (fail)
      change Code.wp _ _ _ _ (wo.alloc (.cells #[.int .u8 0, .int .u64 (a : Int)] 103))
      generalize wo.alloc (.cells #[.int .u8 0, .int .u64 (a : Int)] 103) = W1 at n1 nb ⊢
      obtain ⟨b, hbb⟩ : ∃ b, b = wo.heap.size := ⟨_, rfl⟩
      rw [← hbb] at n1 nb ⊢
      have N1 := Bx.mk n1; have NB := Bx.mk nb; have HBB := Bx.mk hbb
      clear n1 nb hbb c1 c2 c3 c4
      go_wp2_with fail
      go_loopg [7] 63 (fun k i wq => ∃ t : Nat, k = 64 - t ∧ 1 ≤ t ∧ t ≤ 64 ∧ i = .int .i64 (t : Int) ∧ At wq b 103 (.int .u8 (min (t - 1) V : Nat)) (.int .u64 ((a / 2 ^ min (t - 1) V : Nat) : Int)) ∧ Below b wo wq)
      case atStart => exact ⟨1, rfl, by omega, by omega, rfl, (by simpa using N1.out), NB.out⟩
      case round =>
        obtain ⟨t, hk, ht1, ht, rfl, mb, hb⟩ := hrel
        have HK2 := Bx.mk hk; have MB := Bx.mk mb; have HB2 := Bx.mk hb; have T1 := Bx.mk ht1
        have m1 : At wr N 54 (.int .u64 (B : Int)) (.int .u64 (E : Int)) := (hb.block N (by have := WS.out; have := HBB.out; omega)).trans MO1.out
        have M1' := Bx.mk m1
        clear hk mb hb m1 ht1
        by_cases hlt2 : t ≤ 63
        · have TL := Bx.mk hlt2
          have hc := fun w => rspan_any w t (a / 2 ^ t)
          unfold cv sv at hc
          rw [← div_pow_nat] at hc
          have HC2 := Bx.mk hc; clear hc
          go_wp2_with fail
          refine (HC2.out _).mono ?_
          rintro e w1 ⟨rfl, hb1⟩
          have q1 := ((M1'.out.alloc (.cells #[.int .u8 (t : Int), .int .u64 ((a : Int) / 2 ^ t)] 103)).below hb1).alloc (.cells #[.int .u64 (spB t (a / 2 ^ t) : Int), .int .u64 (spE t (a / 2 ^ t) : Int)] 54)
          have q2 := ((MB.out.alloc (.cells #[.int .u8 (t : Int), .int .u64 ((a : Int) / 2 ^ t)] 103)).below hb1).alloc (.cells #[.int .u64 (spB t (a / 2 ^ t) : Int), .int .u64 (spE t (a / 2 ^ t) : Int)] 54)
          have q3 := ((At.new wr 103 (.int .u8 (t : Int)) (.int .u64 ((a : Int) / 2 ^ t))).below hb1).alloc (.cells #[.int .u64 (spB t (a / 2 ^ t) : Int), .int .u64 (spE t (a / 2 ^ t) : Int)] 54)
          have q4 := At.new w1 54 (.int .u64 (spB t (a / 2 ^ t) : Int)) (.int .u64 (spE t (a / 2 ^ t) : Int))
          have hb2 := (HB2.out.alloc (by have := HB2.out.size; have := HBB.out; omega) (.cells #[.int .u8 (t : Int), .int .u64 ((a : Int) / 2 ^ t)] 103))
          have hsz : b ≤ (wr.alloc (.cells #[.int .u8 (t : Int), .int .u64 ((a : Int) / 2 ^ t)] 103)).heap.size := by have := HB2.out.size; have := HBB.out; simp; omega
          have hb3 := hb2.trans (hb1.mono hsz)
          have hb4 := hb3.alloc (by have := hb1.size; omega) (.cells #[.int .u64 (spB t (a / 2 ^ t) : Int), .int .u64 (spE t (a / 2 ^ t) : Int)] 54)
          obtain ⟨a1, a2, a3, a4⟩ := q1.cells
          obtain ⟨b1, b2, b3, b4⟩ := q2.cells
          obtain ⟨c1, c2, c3, c4⟩ := q3.cells
          obtain ⟨d1, d2, d3, d4⟩ := q4.cells
          have Q1 := Bx.mk q1; have Q2 := Bx.mk q2; have HB4 := Bx.mk hb4
          have hT := lvl_iff ALT.out hE hlt2
          rw [← HV.out] at hT
          have HT := Bx.mk hT
          clear hb1 hb2 hb3 hb4 q1 q2 q3 q4 hT hsz hlt2 ht
          go_upto_region 12 with (fail)
          change Code.wp _ _ _ _ (w1.alloc (.cells #[.int .u64 (spB t (a / 2 ^ t) : Int), .int .u64 (spE t (a / 2 ^ t) : Int)] 54))
          generalize w1.alloc (.cells #[.int .u64 (spB t (a / 2 ^ t) : Int), .int .u64 (spE t (a / 2 ^ t) : Int)] 54) = U at *
          generalize spB t (a / 2 ^ t) = p at *
          generalize spE t (a / 2 ^ t) = q at *
          generalize hmy : mayB t (a / 2 ^ t) = my at *
          clear hmy
          by_cases hT : t ≤ V
          · obtain ⟨rfl, rfl, h3⟩ := HT.out.2 hT
            have f3 : (q : Int) ≤ (E : Int) := by omega
            have EQ := Bx.mk (show min (t + 1 - 1) V = t by omega)
            clear h3 hT HT
            go_wp2_with fail
            go_roundg (64 - (t + 1))
            case measure => have := HK2.out; have := TL.out; omega
            case rel => exact ⟨t + 1, rfl, by omega, by have := TL.out; omega, by simp, (by rw [EQ.out]; have h := two_setC Q2.out (.int .u8 (t : Int)) (.int .u64 ((p : Int) / 2 ^ t)); rw [div_pow_nat] at h; exact h), ((HB4.out.setCell (Nat.le_refl _) _).setCell (Nat.le_refl _) _)⟩
          · have EQ := Bx.mk (show min (t + 1 - 1) V = min (t - 1) V by have := T1.out; omega)
            have NO := Bx.mk (fun h => hT (HT.out.1 h))
            clear hT HT
            cases my
            · clear NO
              go_wp2_with fail
              go_roundg (64 - (t + 1))
              case measure => have := HK2.out; have := TL.out; omega
              case rel => exact ⟨t + 1, rfl, by omega, by have := TL.out; omega, by simp, (by rw [EQ.out]; exact Q2.out), HB4.out⟩
            · by_cases hp : p = a
              · subst hp
                have f3 : ¬ (q : Int) ≤ (E : Int) := fun h => NO.out ⟨rfl, rfl, by omega⟩
                clear NO
                go_wp2_with fail
                go_roundg (64 - (t + 1))
                case measure => have := HK2.out; have := TL.out; omega
                case rel => exact ⟨t + 1, rfl, by omega, by have := TL.out; omega, by simp, (by rw [EQ.out]; exact Q2.out), HB4.out⟩
              · have f3 : ((p : Int) == (a : Int)) = false := by simp; omega
                have f4 : (p == a) = false := by simp; exact hp
                clear NO hp
                go_wp2_with fail
                go_roundg (64 - (t + 1))
                case measure => have := HK2.out; have := TL.out; omega
                case rel => exact ⟨t + 1, rfl, by omega, by have := TL.out; omega, by simp, (by rw [EQ.out]; exact Q2.out), HB4.out⟩
        · have TE : t = 64 := by omega
          have mb := MB.out
          rw [TE, show min (64 - 1) V = V by have := LV.out; omega] at mb
          have f1 : ¬ (t : Int) ≤ 63 := by omega
          obtain ⟨b1, b2, b3, b4⟩ := mb.cells
          have MB' := Bx.mk mb
          have HO' := Bx.mk (own_keepC HO.out (fun j hj => HB2.out.block j (by have := (own_ltC HO.out j hj).2; have := HBB.out; omega)))
          have hlen : cs.length + 1 ≤ 128 := by
            have h1 := cover_le (b := B) hE
            rw [← HC.out, coverN_cons ALT.out, List.length_append, List.length_cons] at h1
            omega
          clear hlt2 ht mb TE
          go_wp2_with ((at_builtin; refine wpList_append_own _ rfl _ _ 99 rfl (N + 2) 103 i0 (.agg #[.int .u8 0, .int .u64 0]) 2 16 underCs HI.out HZ.out hz1 hz2 rfl (by decide) _ _ _ rfl (own_belowC HO'.out (below_new _ _)) ⟨wr.heap.size, 0, none⟩ 1 1 [.int .u8 (V : Int), .int .u64 ((a / 2 ^ V : Nat) : Int)] rfl rfl ?c1 ?c2 ?c3 ?c4 ?c5 ?_))
          case c2 => exact ⟨rfl, rfl⟩
          case c3 => unfold maxLen; omega
          case c4 => omega
          case c5 => have := HB2.out.size; have := WS.out; simp; omega
          intro v' w2 hown' hgrow _
          have mb2 : At w2 b 103 (.int .u8 (V : Int)) (.int .u64 ((a / 2 ^ V : Nat) : Int)) := (hgrow.block b (by simp; have := MB'.out.lt; omega) (fun e => by have := (own_ltC HO.out b e.symm).2; have := HBB.out; omega)).trans (MB'.out.alloc _)
          obtain ⟨d1, d2, d3, d4⟩ := mb2.cells
          have hc := fun w => rspan_any w V (a / 2 ^ V)
          unfold cv sv at hc
          obtain ⟨y1, y2, y3⟩ := (lvl_iff ALT.out hE LV.out).2 (by rw [← HV.out]; exact Nat.le_refl _)
          have hend : spE V (a / 2 ^ V) = a + 2 ^ V := by
            obtain ⟨s1, s2⟩ := sp_of y1
            rw [s2, Nat.succ_mul, ← s1, y2]
          rw [hend, y2] at hc
          have HC2 := Bx.mk hc
          have B5 := Bx.mk (((HB.out.trans (HB2.out.mono (by have := WS.out; have := HBB.out; omega))).alloc (by have := HB2.out.size; have := WS.out; have := HBB.out; omega) (.cells #[.int .u8 (V : Int), .int .u64 ((a / 2 ^ V : Nat) : Int)] 103)).grown hgrow (by have := HB2.out.size; have := WS.out; have := HBB.out; simp; omega) (fun j hj => (own_ltC HO.out j hj).1))
          have HO5 := Bx.mk hown'
          have S5 := Bx.mk (show N + 2 ≤ w2.heap.size by have h := B5.out.size; rw [HS0.out] at h; exact h)
          clear hown' hgrow mb2 hc y1 y2 y3 hend b1 b2 b3 b4 f1
          go_wp2_with fail
          refine (HC2.out _).mono ?_
          rintro e w3 ⟨rfl, hb⟩
          have B6 := Bx.mk ((B5.out.trans (hb.mono S5.out)).alloc (by have := hb.size; have := S5.out; omega) (.cells #[.int .u64 (a : Int), .int .u64 ((a + 2 ^ V : Nat) : Int)] 54))
          have HO6 := Bx.mk (own_belowC (own_belowC HO5.out hb) (below_new w3 (.cells #[.int .u64 (a : Int), .int .u64 ((a + 2 ^ V : Nat) : Int)] 54)))
          clear hb
          go_wp2_with fail
          go_roundg (E - (a + 2 ^ V))
          case measure => have := HK.out; have := ALT.out; have := Nat.two_pow_pos V; omega
          case rel =>
            refine ⟨a + 2 ^ V, cs ++ [(V, a / 2 ^ V)], rfl, L3.out, by simp, ?_, ?_, B6.out⟩
            · rw [List.append_assoc, ← HC.out, coverN_cons ALT.out, ← HV.out]; rfl
            · rw [ccells_append, List.length_append]
              exact HO6.out
    · obtain rfl : a = E := by omega
      obtain ⟨b1, b2, b3, b4⟩ := MO2.out.cells
      have f1 : ¬ (a : Int) < (a : Int) := by omega
      clear hlt ha
      go_wp2_with fail
      have hn : coverN a a = [] := coverN_nil (by omega)
      have hcs := HC.out
      rw [hn, List.append_nil] at hcs
      subst hcs
      refine bodyPost_ret (res_tf rfl _ _ (N + 1) _ _ _ _ rfl (two_setC MO2.out _ _) Tryz.underlying75 faultZ) rfl ⟨_, rfl, ⟨?_, ?_⟩⟩
      · exact own_monoC (ownsRow_setCell_ne (ownsRow_setCell_ne HO.out _ _ (fun j hj e => by have := (own_ltC HO.out j hj).1; have e2 : j = N + 1 := e; omega)) _ _ (fun j hj e => by have := (own_ltC HO.out j hj).1; have e2 : j = N + 1 := e; omega)) (by have := HN.out; omega)
      · rw [← HN.out]
        exact ((K0.out.trans (HB.out.mono (by have := HN.out; omega))).setCell (show N ≤ N + 1 by omega) _).setCell (show N ≤ N + 1 by omega) _
end Go.Proofs.YtgbafjmklefoiaaGreatDoor
end
