/- cartularyref22.Digits. -/
import Derived.Test.YtohifpomdanmkaaGreatDoorRva
namespace Go.Proofs.YtohifpomdanmkaaGreatDoor
set_option maxRecDepth 100000
open Go.RowKit
def icells (l : List Nat) : List Value := l.map fun (n : Nat) => Value.int .i64 (n : Int)
theorem icells_length (l : List Nat) : (icells l).length = l.length := by simp [icells]
theorem icells_push (l : List Nat) (n : Nat) : icells l ++ [.int .i64 (n : Int)] = icells (l ++ [n]) := by simp [icells]
theorem infoIs : (Tryz.prog.info? 3).map (fun i => (i.zero, i.size, i.bytes)) = some (some (.int .i64 0), 1, 8) := by kernel_rfl
theorem underIs : Tryz.prog.underlying 50 = some (.slice 3) := by kernel_rfl
theorem vcellsI : Tryz.prog.cellsOf 3 = 1 := by kernel_rfl
theorem int_push {w : World} {base : Nat} {v : Value} {n : Nat} {xs : List Value} (h : w.ownsRow base 3 1 v n xs) (o : Obj) : (w.alloc o).ownsRow base 3 1 v n xs :=
  own_keep h (Keep.alloc (fun _ => False) w o) (fun _ _ h => h)
theorem int_src (w : World) (v : Value) (n : Nat) (hn : n = w.heap.size) :
    ∀ ad, some (⟨n, 0, none⟩ : Addr) = some ad → ∀ j x, [v][j]? = some x → (w.alloc (.cells #[v] 3)).cell? (ad.add j) = some x := by
  rintro ad had j x hj
  cases had
  subst hn
  match j, hj with
  | 0, hj => simp at hj; subst hj; simp [Addr.add]
/-- the digits one by one -/
def digsL (m : List UInt8) (n : Nat) : List Nat := (List.range n).map (dall m)
theorem digsL_length (m : List UInt8) (n : Nat) : (digsL m n).length = n := by simp [digsL]
theorem digsL_succ (m : List UInt8) (n : Nat) : digsL m (n + 1) = digsL m n ++ [dall m n] := by simp [digsL, List.range_succ]
theorem digsL_cell (m : List UInt8) (n i : Nat) (h : i < n) : (icells (digsL m n))[i]? = some (.int .i64 (dall m i : Int)) := by simp [icells, digsL, h]
theorem dall_even (m : List UInt8) (t : Nat) (ht : t < 32) : dall m (2 * t) = (m.getD t 0).toNat / 16 := by
  unfold dall dg
  rw [if_pos (by omega), show 2 * t / 2 = t by omega, show 1 - 2 * t % 2 = 1 by omega]
  have := (m.getD t 0).toNat_lt
  rw [Nat.pow_one]
  generalize (m.getD t 0).toNat = c at *
  omega
theorem dall_odd (m : List UInt8) (t : Nat) (ht : t < 32) : dall m (2 * t + 1) = (m.getD t 0).toNat % 16 := by
  unfold dall dg
  rw [if_pos (by omega), show (2 * t + 1) / 2 = t by omega, show 1 - (2 * t + 1) % 2 = 0 by omega, Nat.pow_zero, Nat.div_one]
/-- a row of whole numbers of one's own, read at a place -/
theorem ints_at {w : World} {base : Nat} {v : Value} {n : Nat} {xs : List Value} (h : w.ownsRow base 3 1 v n xs) (i : Nat) (hi : i < n) :
    ∃ g c, v = .slice (some ⟨g, 0, none⟩) n c ∧ n ≤ c ∧ g < w.heap.size ∧ w.cell? ⟨g, i, none⟩ = xs[i]? := by
  rcases id h.2 with ⟨rfl, rfl⟩ | ⟨g, cap, cur, rfl, hb, hg, h1, h2, h3, h4⟩
  · omega
  · refine ⟨g, cap, rfl, h1, (Array.getElem?_eq_some_iff.1 hg).1, ?_⟩
    exact h.cellAt i (by omega)
set_option maxHeartbeats 1600000 in
theorem digits22r_any (w : World) (m : List UInt8) (hm : m.length = 32) :
    Calls Tryz.prog 11 #[hv m] w fun e w' => ∃ v, e = .returned v ∧ w'.ownsRow w.heap.size 3 1 v 67 (icells (digsL m 67)) ∧ Below w.heap.size w w' := by
  have x0 := HashAt.new w m hm
  have kb := er_al (Below.refl w.heap.size w) (.cells (ocells m) 23)
  obtain ⟨i0, hi, hz0, hz1, hz2⟩ := info_parts infoIs
  have RI := Bx.mk (And.intro hi (And.intro hz0 (And.intro hz1 hz2)))
  have ML := Bx.mk hm
  clear hi hz0 hz1 hz2 hm
  unfold hv
  go_enter Tryz.func11, Tryz.ntmps11
  go_upto_region 1 with (fail)
  change Code.wp _ _ _ _ (w.alloc (.cells (ocells m) 23))
  generalize w.alloc (.cells (ocells m) 23) = W at x0 kb ⊢
  obtain ⟨N, hN⟩ : ∃ N, N = w.heap.size := ⟨_, rfl⟩
  rw [← hN] at x0 kb ⊢
  obtain ⟨B, hB⟩ : ∃ B, B = W.heap.size := ⟨_, rfl⟩
  have X0 := Bx.mk x0; have K0 := Bx.mk kb; have HB := Bx.mk hB; have HN := Bx.mk hN
  have hNB := kb.size
  rw [← hN, ← hB] at hNB
  have NB := Bx.mk hNB
  clear x0 kb hB hN hNB
  go_wp2_with fail
  go_loopw [3, 5] (fun lv iv wr => ∃ t : Nat, t ≤ 32 ∧ iv = .int .i64 (t : Int) ∧ wr.ownsRow B 3 1 lv (2 * t) (icells (digsL m (2 * t))) ∧ Below B W wr) (fun _ iv _ => 32 - (intOf iv).toNat)
  case atStart => exact ⟨0, by decide, rfl, ⟨rfl, .inl ⟨rfl, rfl⟩⟩, by rw [HB.out]; exact Below.refl _ _⟩
  case round =>
    obtain ⟨t, ht, rfl, ho, hb⟩ := hrel
    obtain ⟨a8, c8, rfl, q1, q2, q3⟩ := own_shape ho
    have O1 := Bx.mk ho; have BB := Bx.mk hb
    have hsz : B ≤ wr.heap.size := by have := hb.size; rw [← HB.out] at this; exact this
    clear ho hb q1 q2 q3
    by_cases hlt : t < 32
    · have hcell := ((X0.out.below (by rw [← HB.out]; exact BB.out)).cell t ((m.getD t 0).toNat : Int) (by
        have : t < m.length := by rw [ML.out]; exact hlt
        simp [ocells, bcells, bcell, this]))
      have e0 := dall_even m t hlt
      have e1 := dall_odd m t hlt
      have hcl := (m.getD t 0).toNat_lt
      have hcm : (ocells m)[t]? = some (.int .u8 ((m.getD t 0).toNat : Int)) := by
        have : t < m.length := by rw [ML.out]; exact hlt
        simp [ocells, bcells, bcell, this]
      generalize (m.getD t 0).toNat = c at hcell e0 e1 hcl hcm
      have HCM := Bx.mk hcm
      clear hcm
      have hq : ((c : Int)).tdiv 16 = ((c / 16 : Nat) : Int) := by rw [Int.tdiv_eq_ediv_of_nonneg (by omega)]; omega
      have hr : ((c : Int)).tmod 16 = ((c % 16 : Nat) : Int) := by rw [Int.tmod_eq_emod_of_nonneg (by omega)]; omega
      rw [← e0] at hq
      rw [← e1] at hr
      have s1 := digsL_succ m (2 * t)
      have s2 := digsL_succ m (2 * t + 1)
      have hd0 := dall_lt m (2 * t)
      have hd1 := dall_lt m (2 * t + 1)
      have HC := Bx.mk hcell; have HQ := Bx.mk hq; have HR := Bx.mk hr; have S1 := Bx.mk s1; have S2 := Bx.mk s2; have SZ := Bx.mk hsz
      generalize dall m (2 * t) = d0 at *
      generalize dall m (2 * t + 1) = d1 at *
      clear e0 e1 s1 s2 hsz
      have hc := HC.out; have hq := HQ.out
      have w1c : IntKind.i64.wrap (c : Int) = (c : Int) := by simp [IntKind.wrap, IntKind.bits, IntKind.signed]; omega
      go_upto_region 7 with (guard_target =~ wpList _ _ _ (⟨some 18, _, _, _, _, _⟩ :: _) _ _; refine wpList_append_src rfl (.tmp 11) (.tmp 17) 50 rfl B 3 i0 (.int .i64 0) 1 8 underIs RI.out.1 RI.out.2.1 RI.out.2.2.1 RI.out.2.2.2 rfl (by decide) (.slice a8 (2 * t) c8) (2 * t) (icells (digsL m (2 * t))) rfl (int_push O1.out _) (some ⟨wr.heap.size, 0, none⟩) 1 1 [.int .i64 (d0 : Int)] rfl (fun h => by cases h) rfl (int_src wr _ _ rfl) (by simp [Value.oneCell']) (by unfold maxLen; omega) (by omega) (by have := SZ.out; simp; omega) ?_; intro v1 w1 hown' hgrow _; have O1' := Bx.mk hown'; have GO1 := Bx.mk hgrow; clear hown' hgrow)
      have b1 : Below B W w1 := (BB.out.alloc SZ.out _).grown GO1.out (Nat.le_trans SZ.out (by simp)) (fun k hk => ownsRow_fresh O1.out k hk)
      have o2 := O1'.out
      rw [icells_push, ← S1.out] at o2
      have h1 := ((X0.out.below (by rw [← HB.out]; exact b1)).cell t (c : Int) HCM.out)
      obtain ⟨a9, c9, rfl, q1, q2, q3⟩ := own_shape o2
      have O2 := Bx.mk o2; have BB1 := Bx.mk b1; have SZ1 := Bx.mk (show B ≤ w1.heap.size from Nat.le_trans SZ.out (Nat.le_trans (by simp) GO1.out.size))
      clear o2 b1 GO1 O1' O1 BB hc hcell q1 q2 q3 SZ
      have hr := HR.out
      go_wp2_with (guard_target =~ wpList _ _ _ (⟨some 26, _, _, _, _, _⟩ :: _) _ _; refine wpList_append_src rfl (.tmp 19) (.tmp 25) 50 rfl B 3 i0 (.int .i64 0) 1 8 underIs RI.out.1 RI.out.2.1 RI.out.2.2.1 RI.out.2.2.2 rfl (by decide) (.slice a9 (2 * t + 1) c9) (2 * t + 1) (icells (digsL m (2 * t + 1))) rfl (int_push O2.out _) (some ⟨w1.heap.size, 0, none⟩) 1 1 [.int .i64 (d1 : Int)] rfl (fun h => by cases h) rfl (int_src w1 _ _ rfl) (by simp [Value.oneCell']) (by unfold maxLen; omega) (by omega) (by have := SZ1.out; simp; omega) ?_; intro v2 w2 hown' hgrow _; have O2' := Bx.mk hown'; have GO2 := Bx.mk hgrow; clear hown' hgrow)
      have b2 : Below B W w2 := (BB1.out.alloc SZ1.out _).grown GO2.out (Nat.le_trans SZ1.out (by simp)) (fun k hk => ownsRow_fresh O2.out k hk)
      have o3 := O2'.out
      rw [icells_push, ← S2.out] at o3
      have O3 := Bx.mk o3; have BB2 := Bx.mk b2
      clear o3 b2 h1 hr
      go_roundw
      case rel => exact ⟨t + 1, hlt, by go_num, O3.out, BB2.out⟩
      case measure => simp [intOf]; omega
    · obtain rfl : t = 32 := by omega
      obtain ⟨g, c, e, hgc, hgl, _⟩ := ints_at O1.out 0 (by decide)
      cases e
      have SZ := Bx.mk hsz; have P1 := O1
      clear hlt hgc hgl hsz ht
      go_wp2_with fail
      go_loopw [4, 6] (fun sv iv wq => ∃ t : Nat, t ≤ 64 ∧ iv = .int .i64 (t : Int) ∧ sv = .int .i64 (dlack m t : Int) ∧ wq = wr) (fun _ iv _ => 64 - (intOf iv).toNat)
      case atStart => exact ⟨0, by decide, rfl, rfl, rfl⟩
      case round =>
        obtain ⟨t, ht, rfl, rfl, rfl⟩ := hrel
        have hle := dlack_le m t
        by_cases hlt : t < 64
        · obtain ⟨g', c', e, _, _, hcell⟩ := ints_at O1.out t hlt
          cases e
          rw [digsL_cell m 64 t hlt] at hcell
          have hdl := dall_lt m t
          have hst : dlack m (t + 1) = dlack m t + (15 - dall m t) := by show dlack m t + (15 - dg m t) = _; rw [show dall m t = dg m t by unfold dall; rw [if_pos hlt]]
          generalize dall m t = d at *
          generalize dlack m t = s at *
          have HST := Bx.mk hst
          clear hst
          go_wp2_with fail
          go_roundw
          case rel => exact ⟨t + 1, hlt, by go_num, by rw [HST.out]; congr 1; omega, trivial⟩
          case measure => simp [intOf]; omega
        · obtain rfl : t = 64 := by omega
          have e0 : dall m 64 = dlack m 64 / 256 := by
            unfold dall
            rw [if_neg (by decide)]
            generalize dlack m 64 = s at *
            simp; omega
          have e1 : dall m 65 = dlack m 64 / 16 % 16 := by unfold dall; rw [if_neg (by decide)]
          have e2 : dall m 66 = dlack m 64 % 16 := by unfold dall; rw [if_neg (by decide)]; simp
          have s0 := digsL_succ m 64
          have s1 := digsL_succ m 65
          have s2 := digsL_succ m 66
          rw [e0] at s0
          rw [e1] at s1
          rw [e2] at s2
          generalize dlack m 64 = s at *
          have f0 : ((s : Int)).tdiv 256 = ((s / 256 : Nat) : Int) := by rw [Int.tdiv_eq_ediv_of_nonneg (by omega)]; omega
          have f1 : ((s : Int)).tdiv 16 = ((s / 16 : Nat) : Int) := by rw [Int.tdiv_eq_ediv_of_nonneg (by omega)]; omega
          have f2 : ((s / 16 : Nat) : Int).tmod 16 = ((s / 16 % 16 : Nat) : Int) := by rw [Int.tmod_eq_emod_of_nonneg (by omega)]; omega
          have f3 : ((s : Int)).tmod 16 = ((s % 16 : Nat) : Int) := by rw [Int.tmod_eq_emod_of_nonneg (by omega)]; omega
          have hx0 : s / 256 < 16 := by omega
          have hx1 : s / 16 < 64 := by omega
          have hx2 : s / 16 % 16 < 16 := by omega
          have hx3 : s % 16 < 16 := by omega
          have T0 := Bx.mk s0; have T1 := Bx.mk s1; have T2 := Bx.mk s2
          clear e0 e1 e2 s0 s1 s2 hlt ht
          generalize s / 256 = y0 at *
          generalize hy : s / 16 % 16 = y1 at *
          generalize s % 16 = y2 at *
          generalize hz : s / 16 = z at *
          clear hy hz
          go_upto_region 13 with (guard_target =~ wpList _ _ _ (⟨some 44, _, _, _, _, _⟩ :: _) _ _; refine wpList_append_src rfl (.tmp 40) (.tmp 43) 50 rfl B 3 i0 (.int .i64 0) 1 8 underIs RI.out.1 RI.out.2.1 RI.out.2.2.1 RI.out.2.2.2 rfl (by decide) (.slice (some ⟨g, 0, none⟩) 64 c8) 64 (icells (digsL m 64)) rfl (int_push P1.out _) (some ⟨wr.heap.size, 0, none⟩) 1 1 [.int .i64 (y0 : Int)] rfl (fun h => by cases h) rfl (int_src wr _ _ rfl) (by simp [Value.oneCell']) (by unfold maxLen; omega) (by omega) (by have := SZ.out; simp; omega) ?_; intro v1 w1 hown' hgrow _; have P1' := Bx.mk hown'; have GP1 := Bx.mk hgrow; clear hown' hgrow)
          have b1 : Below B W w1 := (BB.out.alloc SZ.out _).grown GP1.out (Nat.le_trans SZ.out (by simp)) (fun k hk => ownsRow_fresh P1.out k hk)
          have o1 := P1'.out
          rw [icells_push, ← T0.out] at o1
          obtain ⟨ax, cx, rfl, q1, q2, q3⟩ := own_shape o1
          have P2 := Bx.mk o1; have BC1 := Bx.mk b1; have SC1 := Bx.mk (show B ≤ w1.heap.size from Nat.le_trans SZ.out (Nat.le_trans (by simp) GP1.out.size))
          clear o1 b1 GP1 P1' q1 q2 q3
          go_upto_region 14 with (guard_target =~ wpList _ _ _ (⟨some 50, _, _, _, _, _⟩ :: _) _ _; refine wpList_append_src rfl (.tmp 45) (.tmp 49) 50 rfl B 3 i0 (.int .i64 0) 1 8 underIs RI.out.1 RI.out.2.1 RI.out.2.2.1 RI.out.2.2.2 rfl (by decide) (.slice ax 65 cx) 65 (icells (digsL m 65)) rfl (int_push P2.out _) (some ⟨w1.heap.size, 0, none⟩) 1 1 [.int .i64 (y1 : Int)] rfl (fun h => by cases h) rfl (int_src w1 _ _ rfl) (by simp [Value.oneCell']) (by unfold maxLen; omega) (by omega) (by have := SC1.out; simp; omega) ?_; intro v2 w2 hown' hgrow _; have P2' := Bx.mk hown'; have GP2 := Bx.mk hgrow; clear hown' hgrow)
          have b2 : Below B W w2 := (BC1.out.alloc SC1.out _).grown GP2.out (Nat.le_trans SC1.out (by simp)) (fun k hk => ownsRow_fresh P2.out k hk)
          have o2 := P2'.out
          rw [icells_push, ← T1.out] at o2
          obtain ⟨ay, cy, rfl, q1, q2, q3⟩ := own_shape o2
          have P3 := Bx.mk o2; have BC2 := Bx.mk b2; have SC2 := Bx.mk (show B ≤ w2.heap.size from Nat.le_trans SC1.out (Nat.le_trans (by simp) GP2.out.size))
          clear o2 b2 GP2 P2' q1 q2 q3
          go_wp2_with (guard_target =~ wpList _ _ _ (⟨some 55, _, _, _, _, _⟩ :: _) _ _; refine wpList_append_src rfl (.tmp 51) (.tmp 54) 50 rfl B 3 i0 (.int .i64 0) 1 8 underIs RI.out.1 RI.out.2.1 RI.out.2.2.1 RI.out.2.2.2 rfl (by decide) (.slice ay 66 cy) 66 (icells (digsL m 66)) rfl (int_push P3.out _) (some ⟨w2.heap.size, 0, none⟩) 1 1 [.int .i64 (y2 : Int)] rfl (fun h => by cases h) rfl (int_src w2 _ _ rfl) (by simp [Value.oneCell']) (by unfold maxLen; omega) (by omega) (by have := SC2.out; simp; omega) ?_; intro v3 w3 hown' hgrow _; have P3' := Bx.mk hown'; have GP3 := Bx.mk hgrow; clear hown' hgrow)
          have b3 : Below B W w3 := (BC2.out.alloc SC2.out _).grown GP3.out (Nat.le_trans SC2.out (by simp)) (fun k hk => ownsRow_fresh P3.out k hk)
          have o3 := P3'.out
          rw [icells_push, ← T2.out] at o3
          have o4 := ownsRow_mono o3 (show w.heap.size ≤ B by rw [← HN.out]; have := NB.out; omega)
          go_ret
          exact ⟨_, rfl, o4, by rw [← HN.out]; exact K0.out.trans (b3.mono (by have := NB.out; omega))⟩
end Go.Proofs.YtohifpomdanmkaaGreatDoor
