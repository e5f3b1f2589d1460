/- the order of two hashes: hash.Cmp, cartularyref05.Cmp. -/
import Derived.Test.YtecdaokgnkhgiaaDoorHe
namespace Go.Proofs.YtecdaokgnkhgiaaDoor
set_option maxRecDepth 100000
open Go.RowKit
/-- the order of two lists of bytes of one length -/
def cmpH : List UInt8 → List UInt8 → Int
  | x :: xs, y :: ys => if x.toNat < y.toNat then -1 else if y.toNat < x.toNat then 1 else cmpH xs ys
  | _, _ => 0
theorem cmpH_self (a : List UInt8) : cmpH a a = 0 := by
  induction a with
  | nil => rfl
  | cons x xs ih => simp [cmpH, ih]
theorem cmpH_drop (a b : List UInt8) (t : Nat) (ha : t < a.length) (hb : t < b.length) :
    cmpH (a.drop t) (b.drop t) = if a[t].toNat < b[t].toNat then -1 else if b[t].toNat < a[t].toNat then 1 else cmpH (a.drop (t + 1)) (b.drop (t + 1)) := by
  rw [List.drop_eq_getElem_cons ha, List.drop_eq_getElem_cons hb]
  rfl
theorem drop_eq_of {a b : List UInt8} {t : Nat} (ha : t < a.length) (hb : t < b.length) (h : a[t].toNat = b[t].toNat) (h2 : a.drop (t + 1) = b.drop (t + 1)) : a.drop t = b.drop t := by
  rw [List.drop_eq_getElem_cons ha, List.drop_eq_getElem_cons hb, h2, UInt8.toNat_inj.1 h]
set_option maxHeartbeats 1600000 in
theorem rcmp_any (w : World) (a b : List UInt8) (ha : a.length = 32) (hb : b.length = 32) : Calls Tryd.prog 29 #[hv a, hv b] w fun e w' => e = .returned (.int .i64 (cmpH a b)) ∧ Below w.heap.size w w' := by
  have x0 := (HashAt.new w a ha).below (er_al (Below.refl _ _) (.cells (ocells b) 24))
  have x1 := HashAt.new (w.alloc (.cells (ocells a) 24)) b hb
  rw [show (w.alloc (.cells (ocells a) 24)).heap.size = w.heap.size + 1 by simp] at x1
  have kb : Below w.heap.size w ((w.alloc (.cells (ocells a) 24)).alloc (.cells (ocells b) 24)) := er_al (er_al (Below.refl _ _) _) _
  unfold hv
  go_enter Tryd.func29, Tryd.ntmps29
  go_upto_region 1 with (fail)
  change Code.wp _ _ _ _ ((w.alloc (.cells (ocells a) 24)).alloc (.cells (ocells b) 24))
  generalize (w.alloc (.cells (ocells a) 24)).alloc (.cells (ocells b) 24) = W at x0 x1 kb ⊢
  generalize hn0 : w.heap.size = n0 at x0 x1
  have X0 := Bx.mk x0; have X1 := Bx.mk x1; have KB := Bx.mk kb; have HA := Bx.mk ha; have HB := Bx.mk hb
  clear x0 x1 kb ha hb
  go_wp2_with fail
  go_loopw [5] (fun i wr => ∃ t : Nat, t ≤ 32 ∧ i = .int .i64 (t : Int) ∧ (cmpH a b = cmpH (a.drop t) (b.drop t)) ∧ ∃ n, wr = W.drewN n) (fun i _ => 32 - (intOf i).toNat)
  case atStart => exact ⟨0, Nat.zero_le _, rfl, rfl, 0, rfl⟩
  case round =>
    obtain ⟨t, ht, rfl, hc, n, rfl⟩ := hrel
    by_cases hlt : t < 32
    · have hta : t < a.length := by rw [HA.out]; exact hlt
      have htb : t < b.length := by rw [HB.out]; exact hlt
      have c0 : W.cell? ⟨n0, t, none⟩ = some (.int .u8 (a[t].toNat : Int)) := er_cellAt (X0.out).1 _ _ (by simp [ocells, bcells, bcell, hta])
      have c1 : W.cell? ⟨n0 + 1, t, none⟩ = some (.int .u8 (b[t].toNat : Int)) := er_cellAt (X1.out).1 _ _ (by simp [ocells, bcells, bcell, htb])
      have hd := cmpH_drop a b t hta htb
      rw [← hc] at hd
      generalize a[t] = x at c0 hd
      generalize b[t] = y at c1 hd
      have HD := Bx.mk hd
      clear hd hc hta htb
      by_cases h1 : (x.toNat : Int) < (y.toNat : Int)
      · go_wp2_with fail
        refine wp_region_quiet_c (C := fun w' => ∃ n, w' = W.drewN n) (by kernel_rfl) (by kernel_rfl) ⟨n + 1, rfl⟩ ?_
        repeat (go_big_quiet_step (fail))
        refine wpQuiet_nil ?_
        rintro _ ⟨n1, rfl⟩
        go_wp2_with fail
        go_ret
        exact ⟨by rw [HD.out, if_pos (by omega)]; rfl, KB.out.trans ⟨rfl, rfl, rfl, Nat.le_refl _, fun _ _ => rfl⟩⟩
      · have h1' : ¬ x.toNat < y.toNat := by omega
        have hd := HD.out
        rw [if_neg h1'] at hd
        clear HD h1'
        have HD := Bx.mk hd; clear hd
        by_cases h2 : (y.toNat : Int) < (x.toNat : Int)
        · go_wp2_with fail
          refine wp_region_quiet_c (C := fun w' => ∃ n, w' = W.drewN n) (by kernel_rfl) (by kernel_rfl) ⟨n + 1, rfl⟩ ?_
          repeat (go_big_quiet_step (fail))
          refine wpQuiet_nil ?_
          rintro _ ⟨n1, rfl⟩
          go_wp2_with fail
          refine wp_region_quiet_c (C := fun w' => ∃ n, w' = W.drewN n) (by kernel_rfl) (by kernel_rfl) ⟨n1 + 1, rfl⟩ ?_
          repeat (go_big_quiet_step (fail))
          refine wpQuiet_nil ?_
          rintro _ ⟨n2, rfl⟩
          go_wp2_with fail
          go_ret
          exact ⟨by rw [HD.out, if_pos (by omega)]; rfl, KB.out.trans ⟨rfl, rfl, rfl, Nat.le_refl _, fun _ _ => rfl⟩⟩
        · have h2' : ¬ y.toNat < x.toNat := by omega
          have hd := HD.out
          rw [if_neg h2'] at hd
          clear HD h2'
          have HD := Bx.mk hd; clear hd
          go_wp2_with fail
          refine wp_region_quiet_c (C := fun w' => ∃ n, w' = W.drewN n) (by kernel_rfl) (by kernel_rfl) ⟨n + 1, rfl⟩ ?_
          repeat (go_big_quiet_step (fail))
          refine wpQuiet_nil ?_
          rintro _ ⟨n1, rfl⟩
          go_wp2_with fail
          refine wp_region_quiet_c (C := fun w' => ∃ n, w' = W.drewN n) (by kernel_rfl) (by kernel_rfl) ⟨n1 + 1, rfl⟩ ?_
          repeat (go_big_quiet_step (fail))
          refine wpQuiet_nil ?_
          rintro _ ⟨n2, rfl⟩
          go_wp2_with fail
          go_roundw
          case rel => exact ⟨t + 1, hlt, by go_num, HD.out, n2, rfl⟩
          case measure => simp [intOf]; omega
    · obtain rfl : t = 32 := by omega
      have hz : cmpH a b = 0 := by
        rw [hc, List.drop_of_length_le (by rw [HA.out]; exact Nat.le_refl _)]
        rfl
      have HZ := Bx.mk hz; clear hz hc
      go_wp2_with fail
      go_ret
      exact ⟨by rw [HZ.out]; rfl, KB.out.trans ⟨rfl, rfl, rfl, Nat.le_refl _, fun _ _ => rfl⟩⟩
set_option maxHeartbeats 1600000 in
theorem hcmp_any (w : World) (a b : List UInt8) (ha : a.length = 32) (hb : b.length = 32) : Calls Tryd.prog 28 #[hv a, hv b] w fun e w' => e = .returned (.int .i64 (cmpH a b)) ∧ Below w.heap.size w w' := by
  have x0 := (HashAt.new w a ha).below (er_al (Below.refl _ _) (.cells (ocells b) 24))
  have x1 := HashAt.new (w.alloc (.cells (ocells a) 24)) b hb
  rw [show (w.alloc (.cells (ocells a) 24)).heap.size = w.heap.size + 1 by simp] at x1
  have kb : Below w.heap.size w ((w.alloc (.cells (ocells a) 24)).alloc (.cells (ocells b) 24)) := er_al (er_al (Below.refl _ _) _) _
  unfold hv
  go_enter Tryd.func28, Tryd.ntmps28
  go_upto_region 1 with (fail)
  change Code.wp _ _ _ _ ((w.alloc (.cells (ocells a) 24)).alloc (.cells (ocells b) 24))
  generalize (w.alloc (.cells (ocells a) 24)).alloc (.cells (ocells b) 24) = W at x0 x1 kb ⊢
  generalize hn0 : w.heap.size = n0 at x0 x1
  have heq := fun u => hv_eq u a b ha hb
  simp only [hv_agg] at heq
  have X0 := Bx.mk x0; have X1 := Bx.mk x1; have KB := Bx.mk kb; have HA := Bx.mk ha; have HB := Bx.mk hb
  have l0 := x0.1; have l1 := x1.1
  have L0 := Bx.mk l0; have L1 := Bx.mk l1
  clear x0 x1 kb ha hb l0 l1
  by_cases hab : a = b
  · have hz : cmpH a b = 0 := by rw [hab]; exact cmpH_self b
    have HZ := Bx.mk hz; clear hz
    rw [beq_iff_eq.2 hab] at heq
    have HAB := Bx.mk hab; clear hab
    go_wp2_with (first | refine wpList_load_row rfl 24 (.tmp 2) rfl n0 rfl 24 (ocells a) (0, 0) _ L0.out underH rfl (hszL HA.out) ?_ | refine wpList_load_row rfl 24 (.tmp 3) rfl (n0 + 1) rfl 24 (ocells b) (0, 0) _ L1.out underH rfl (hszL HB.out) ?_)
    go_ret
    exact ⟨by rw [HZ.out]; rfl, KB.out⟩
  · rw [beq_eq_false_iff_ne.2 hab] at heq
    have HAB := Bx.mk hab; clear hab
    go_wp2_with (first | refine wpList_load_row rfl 24 (.tmp 2) rfl n0 rfl 24 (ocells a) (0, 0) _ L0.out underH rfl (hszL HA.out) ?_ | refine wpList_load_row rfl 24 (.tmp 3) rfl (n0 + 1) rfl 24 (ocells b) (0, 0) _ L1.out underH rfl (hszL HB.out) ?_)
    clear heq
    go_loopw [5] (fun i wr => ∃ t : Nat, t ≤ 32 ∧ i = .int .i64 (t : Int) ∧ (cmpH a b = cmpH (a.drop t) (b.drop t)) ∧ a.drop t ≠ b.drop t ∧ ∃ n, wr = W.drewN n) (fun i _ => 32 - (intOf i).toNat)
    case atStart => exact ⟨0, Nat.zero_le _, rfl, rfl, HAB.out, 0, rfl⟩
    case round =>
      obtain ⟨t, ht, rfl, hc, hne, n, rfl⟩ := hrel
      have hlt : t < 32 := by
        rcases Nat.lt_or_ge t 32 with h | h
        · exact h
        · exact absurd (by rw [List.drop_of_length_le (by rw [HA.out]; exact h), List.drop_of_length_le (by rw [HB.out]; exact h)]) hne
      have hta : t < a.length := by rw [HA.out]; exact hlt
      have htb : t < b.length := by rw [HB.out]; exact hlt
      have c0 : W.cell? ⟨n0, t, none⟩ = some (.int .u8 (a[t].toNat : Int)) := er_cellAt (X0.out).1 _ _ (by simp [ocells, bcells, bcell, hta])
      have c1 : W.cell? ⟨n0 + 1, t, none⟩ = some (.int .u8 (b[t].toNat : Int)) := er_cellAt (X1.out).1 _ _ (by simp [ocells, bcells, bcell, htb])
      have hd := cmpH_drop a b t hta htb
      have hdn := fun h1 h2 => hne (drop_eq_of hta htb h1 h2)
      rw [← hc] at hd
      generalize a[t] = x at c0 hd hdn
      generalize b[t] = y at c1 hd hdn
      have HD := Bx.mk hd; have HDN := Bx.mk hdn
      clear hd hc hta htb hdn hne
      by_cases h0 : (x.toNat : Int) = (y.toNat : Int)
      · have h0' : x.toNat = y.toNat := by omega
        have hd := HD.out
        rw [if_neg (by omega), if_neg (by omega)] at hd
        have hdn := HDN.out h0'
        clear HD HDN h0'
        have HD := Bx.mk hd; have HDN := Bx.mk hdn; clear hd hdn
        rw [h0] at c0
        clear h0
        go_wp2_with fail
        refine wp_region_quiet_c (C := fun w' => ∃ n, w' = W.drewN n) (by kernel_rfl) (by kernel_rfl) ⟨n + 1, rfl⟩ ?_
        repeat (go_big_quiet_step (fail))
        refine wpQuiet_nil ?_
        rintro _ ⟨n1, rfl⟩
        go_wp2_with fail
        go_roundw
        case rel => exact ⟨t + 1, hlt, by go_num, HD.out, HDN.out, n1, rfl⟩
        case measure => simp [intOf]; omega
      · have h0' : ((x.toNat : Int) == (y.toNat : Int)) = false := by rw [beq_eq_false_iff_ne]; exact h0
        have H0 := Bx.mk h0; clear h0
        by_cases h1 : (x.toNat : Int) < (y.toNat : Int)
        · go_wp2_with fail
          refine wp_region_quiet_c (C := fun w' => ∃ n, w' = W.drewN n) (by kernel_rfl) (by kernel_rfl) ⟨n + 1, rfl⟩ ?_
          repeat (go_big_quiet_step (fail))
          refine wpQuiet_nil ?_
          rintro _ ⟨n1, rfl⟩
          go_wp2_with fail
          refine wp_region_quiet_c (C := fun w' => ∃ n, w' = W.drewN n) (by kernel_rfl) (by kernel_rfl) ⟨n1 + 1, rfl⟩ ?_
          repeat (go_big_quiet_step (fail))
          refine wpQuiet_nil ?_
          rintro _ ⟨n2, rfl⟩
          go_wp2_with fail
          go_ret
          exact ⟨by rw [HD.out, if_pos (by omega)]; rfl, KB.out.trans ⟨rfl, rfl, rfl, Nat.le_refl _, fun _ _ => rfl⟩⟩
        · have h2 : y.toNat < x.toNat := by have := H0.out; omega
          have hd := HD.out
          rw [if_neg (by omega), if_pos h2] at hd
          clear HD h2
          have HD := Bx.mk hd; clear hd
          go_wp2_with fail
          refine wp_region_quiet_c (C := fun w' => ∃ n, w' = W.drewN n) (by kernel_rfl) (by kernel_rfl) ⟨n + 1, rfl⟩ ?_
          repeat (go_big_quiet_step (fail))
          refine wpQuiet_nil ?_
          rintro _ ⟨n1, rfl⟩
          go_wp2_with fail
          refine wp_region_quiet_c (C := fun w' => ∃ n, w' = W.drewN n) (by kernel_rfl) (by kernel_rfl) ⟨n1 + 1, rfl⟩ ?_
          repeat (go_big_quiet_step (fail))
          refine wpQuiet_nil ?_
          rintro _ ⟨n2, rfl⟩
          go_wp2_with fail
          go_ret
          exact ⟨by rw [HD.out]; rfl, KB.out.trans ⟨rfl, rfl, rfl, Nat.le_refl _, fun _ _ => rfl⟩⟩
end Go.Proofs.YtecdaokgnkhgiaaDoor
