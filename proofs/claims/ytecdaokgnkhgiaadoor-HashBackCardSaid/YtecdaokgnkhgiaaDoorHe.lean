/- cartularyref05.bytes: a hash as a text. -/
import Derived.Test.YtecdaokgnkhgiaaDoorHd
namespace Go.Proofs.YtecdaokgnkhgiaaDoor
set_option maxRecDepth 100000
open Go.RowKit
theorem str_src {w : World} {v : Value} {l : List UInt8} (h : Src w v l) (hl : l ≠ []) : (convert 56 9 v).run Tryd.prog w = .ok (.string (bstr l)) w := by
  obtain ⟨a, c, rfl, _, _, _, h3⟩ := h
  obtain ⟨B, off, rfl, _, hc⟩ := h3 hl
  rw [run_convert_bytes_arg w 56 5 underB (by kernel_rfl) B off l.length c (l.map fun b => (b.toNat : Int)) (by simp) (fun i hi => by
    rw [hc i hi]
    simp [bcell, List.getD, hi]) 9 (by kernel_rfl)]
  congr 2
  unfold strOfNums bstr
  congr 1
  simp [List.map_map, Function.comp_def]
set_option maxHeartbeats 1600000 in
theorem rbytes_any (w : World) (a : List UInt8) (ha : a.length = 32) : Calls Tryd.prog 38 #[hv a] w fun e w' => e = .returned (.string (bstr a)) ∧ Below w.heap.size w w' := by
  have x0 := HashAt.new w a ha
  have b0 : Below w.heap.size w (w.alloc (.cells (ocells a) 24)) := er_al (Below.refl _ _) _
  obtain ⟨i0, hi, hz0, hz1, hz2⟩ := info_parts info8
  have RI := Bx.mk (And.intro hi (And.intro hz0 (And.intro hz1 hz2)))
  have HA := Bx.mk ha
  clear hi hz0 hz1 hz2 ha
  unfold hv
  go_enter Tryd.func38, Tryd.ntmps38
  go_upto_region 1 with (fail)
  change Code.wp _ _ _ _ (w.alloc (.cells (ocells a) 24))
  generalize w.alloc (.cells (ocells a) 24) = W at x0 b0 ⊢
  have X0 := Bx.mk x0; have B0 := Bx.mk b0; clear x0 b0
  go_wp2_with fail
  go_loopw [3, 4] (fun v i wr => ∃ t : Nat, t ≤ 32 ∧ i = .int .i64 (t : Int) ∧ Below W.heap.size W wr ∧ OwnF W.heap.size wr v (a.take t)) (fun _ i _ => 32 - (intOf i).toNat)
  case atStart => exact ⟨0, Nat.zero_le _, rfl, Below.refl _ _, .inl ⟨rfl, rfl⟩⟩
  case round =>
    obtain ⟨t, ht, rfl, hb, ho⟩ := hrel
    have hln : (a.take t).length = t := by rw [List.length_take, HA.out]; omega
    have HLN := Bx.mk hln
    by_cases hlt : t < 32
    · obtain ⟨a3, c3, rfl, q1, q2, q3⟩ := ho.shape
      have hta : t < a.length := by rw [HA.out]; exact hlt
      have hcell : wr.cell? ⟨w.heap.size, t, none⟩ = some (.int .u8 (a[t].toNat : Int)) := er_cellAt (X0.out.below hb).1 _ _ (by simp [ocells, bcells, bcell, hta])
      generalize hat : a[t] = at' at hcell
      have hstep : a.take (t + 1) = a.take t ++ [at'] := by rw [List.take_succ_eq_append_getElem hta, hat]
      have q4 := ho.kept (Keep.alloc (fun _ => False) wr (.cells #[.int .u8 (at'.toNat : Int)] 5)) (fun _ _ h => h)
      have q5 := one_cell wr (.int .u8 (at'.toNat : Int)) rfl wr.heap.size rfl
      have q6 : (a.take t).length + 1 ≤ 140737488355328 := by rw [hln]; omega
      have q7 : W.heap.size ≤ (wr.alloc (.cells #[.int .u8 (at'.toNat : Int)] 5)).heap.size := Nat.le_trans hb.size (by simp)
      have HB := Bx.mk hb; have HO := Bx.mk ho; have Q4 := Bx.mk q4; have Q5 := Bx.mk q5; have Q6 := Bx.mk q6; have Q7 := Bx.mk q7; have HS := Bx.mk hstep
      clear hb ho q1 q2 q3 q4 q5 q6 q7 hstep hat hta hln
      go_wp2_with (refine wpList_append_F rfl (.tmp 9) (.tmp 13) 56 rfl W.heap.size 5 i0 (.int .u8 0) underB RI.out.1 RI.out.2.1 RI.out.2.2.1 RI.out.2.2.2 rfl rfl (.slice a3 (a.take t).length c3) (a.take t) rfl Q4.out (some ⟨wr.heap.size, 0, none⟩) 1 1 [at'] rfl rfl (by simp) Q5.out Q6.out Q7.out ?_; intro v' w2 ho1 hg1 hf1; have G1 := Bx.mk hg1; have O1 := Bx.mk ho1; clear ho1 hg1 hf1)
      go_roundw
      case rel =>
        refine ⟨t + 1, hlt, by go_num, (er_al HB.out _).grown G1.out (Nat.le_trans HB.out.size (by simp)) (fun k hk => (HO.out.fresh k hk).1), ?_⟩
        rw [HS.out]
        exact O1.out
      case measure => simp [intOf]; omega
    · obtain rfl : t = 32 := by omega
      have hta : a.take 32 = a := List.take_of_length_le (by rw [HA.out]; exact Nat.le_refl _)
      rw [hta] at ho
      have hs := str_src ho.src (by intro h; have := HA.out; rw [h] at this; cases this)
      obtain ⟨a3, c3, rfl, q1, q2, q3⟩ := ho.shape
      have HB := Bx.mk hb
      clear hb ho q1 q2 q3 hta hln
      go_wp2_with fail
      go_ret
      exact ⟨rfl, B0.out.trans (HB.out.mono B0.out.size)⟩
end Go.Proofs.YtecdaokgnkhgiaaDoor
