/- onetime.Sign. -/
import Derived.Test.YtohifpomdanmkaaGreatDoorOre
import Derived.BigQuiet
import Derived.Deep.QuietTactic
namespace Go.Proofs.YtohifpomdanmkaaGreatDoor
set_option maxRecDepth 100000
open Go.RowKit
theorem dall_lt (m : List UInt8) (i : Nat) : dall m i < 16 := by
  unfold dall
  split
  · exact dg_lt m i
  · exact Nat.mod_lt _ (by decide)
/-- what a secret signs a message with -/
def signB (s m : List UInt8) (i : Nat) : List UInt8 := chainN (beginB s i) (dall m i)
theorem signB_length (s m : List UInt8) (i : Nat) : (signB s m i).length = 32 := chainN_length (beginB_length s i) _
set_option maxHeartbeats 3200000 in
theorem sign_any (w : World) (s m : List UInt8) (hs : s.length = 32) (hm : m.length = 32) (hT : TabS w) :
    Calls Tryz.prog 5 #[hv s, hv m] w fun e w' => ∃ g, e = .returned (.slice (some ⟨g, 0, none⟩) 67 67) ∧ w.heap.size ≤ g ∧ SlP w' g (rowOf (signB s m) 67) ∧ Below w.heap.size w w' := by
  have x0 := (HashAt.new w s hs).below (er_al (Below.refl _ _) (.cells (ocells m) 23))
  have x1 := HashAt.new (w.alloc (.cells (ocells s) 23)) m hm
  rw [show (w.alloc (.cells (ocells s) 23)).heap.size = w.heap.size + 1 by simp] at x1
  have kb : Below w.heap.size w ((w.alloc (.cells (ocells s) 23)).alloc (.cells (ocells m) 23)) := er_al (er_al (Below.refl _ _) _) _
  have SL := Bx.mk hs; have ML := Bx.mk hm; have HT := Bx.mk hT
  clear hs hm hT
  unfold hv
  go_enter Tryz.func5, Tryz.ntmps5
  go_upto_region 1 with (fail)
  change Code.wp _ _ _ _ ((w.alloc (.cells (ocells s) 23)).alloc (.cells (ocells m) 23))
  generalize (w.alloc (.cells (ocells s) 23)).alloc (.cells (ocells m) 23) = W at x0 x1 kb ⊢
  obtain ⟨N, hN⟩ : ∃ N, N = w.heap.size := ⟨_, rfl⟩
  rw [← hN] at x0 x1 ⊢
  have X0 := Bx.mk x0; have X1 := Bx.mk x1; have KB := Bx.mk kb; have HN := Bx.mk hN
  clear x0 x1 kb hN
  go_wp2_with (guard_target =~ wpList _ _ _ (⟨some 8, _, _, _, _, _⟩ :: _) _ _; refine wpList_load_row rfl 23 (.tmp 3) rfl (N + 1) rfl _ _ _ _ X1.out.1 underH rfl (hszL ML.out) ?_)
  have cr := read_any W m ML.out
  rw [hv_agg] at cr
  refine cr.mono ?_
  clear cr
  rintro e w1 ⟨rfl, hb⟩
  have Y0 := Bx.mk (X0.out.below hb); have K1 := Bx.mk (KB.out.trans (hb.mono KB.out.size))
  clear hb
  go_upto_region 2 with (guard_target =~ wpList _ _ _ (⟨none, _, _, _, _, _⟩ :: _) _ _; refine wpList_store_row rfl 54 (.tmp 5) (.tmp 9) rfl w1.heap.size (dcells (dall m)) rfl rfl _ (dcells fun _ => 0) (heap_alloc_new _ _) (size55 _) (by rw [dcells_size, dcells_size]) (dcells_one _) ?_; rw [setRow_alloc_new _ _ _ _ _ rfl])
  have x5 := heap_alloc_new w1 (.cells (dcells (dall m)) 54)
  have b5 := er_al (Below.refl w1.heap.size w1) (.cells (dcells (dall m)) 54)
  generalize w1.alloc (.cells (dcells (dall m)) 54) = w2 at x5 b5 ⊢
  obtain ⟨n5, hn5⟩ : ∃ n, n = w1.heap.size := ⟨_, rfl⟩
  rw [← hn5] at x5 ⊢
  have Z0 := Bx.mk (Y0.out.below b5); have K2 := Bx.mk (K1.out.trans (b5.mono K1.out.size)); have X5 := Bx.mk x5
  clear b5 x5 hn5
  have mk := make67 w2
  have sl := SlP.new w2
  have b2 := er_al (Below.refl w2.heap.size w2) (.cells (madeCells zeros32 2144) 23)
  go_upto_region 3 with (fail)
  clear mk
  generalize w2.alloc (.cells (madeCells zeros32 2144) 23) = W2 at sl b2 ⊢
  obtain ⟨g, hg⟩ : ∃ g, g = w2.heap.size := ⟨_, rfl⟩
  rw [← hg] at sl ⊢
  have S2 := Bx.mk sl; have B2 := Bx.mk b2; have HG := Bx.mk hg
  clear sl b2 hg
  go_wp2_with fail
  go_loopw [7, 13] (fun _ iv wr => ∃ t : Nat, t ≤ 67 ∧ iv = .int .i64 (t : Int) ∧ SlP wr g (rowOf (signB s m) t) ∧ Below w2.heap.size w2 wr) (fun _ iv _ => 67 - (intOf iv).toNat)
  case atStart => exact ⟨0, by decide, rfl, S2.out, B2.out⟩
  case round =>
    obtain ⟨t, ht, rfl, hsl, hb⟩ := hrel
    have S3 := Bx.mk hsl; have B3 := Bx.mk hb
    have y0 := Z0.out.below hb
    have y5 := (hb.block _ (Array.getElem?_eq_some_iff.1 X5.out).1).trans X5.out
    clear hsl hb S2 B2
    have kw : ∀ u, Below w2.heap.size w2 u → Below w.heap.size w u := fun u h => K2.out.trans (h.mono K2.out.size)
    have KW := Bx.mk kw
    clear kw
    by_cases hlt : t < 67
    · have cb : ∀ u, Below wr.heap.size wr u → _ := fun u hu => begin_any u s SL.out t hlt ((HT.out.below (KW.out _ B3.out)).below hu)
      have hd := dall_lt m t
      have cn : ∀ u, Below wr.heap.size wr u → _ := fun u hu => on_any u (beginB s t) (beginB_length s t) (dall m t) (by omega) ((HT.out.below (KW.out _ B3.out)).below hu)
      have hcl := signB_length s m t
      have hce : chainN (beginB s t) (dall m t) = signB s m t := rfl
      rw [hce] at cn
      simp only [hv_agg] at cb cn
      have hrow := rowOf_succ (signB s m) t
      have hlen := rowOf_length (signB s m) t
      have hdc := er_cellAt y5 t (.int .i64 (dall m t : Int)) (dcells_get _ _ hlt)
      have hn5 := (Array.getElem?_eq_some_iff.1 y5).1
      generalize signB s m t = c at cn hcl hrow hce
      generalize dall m t = d at cn hd hdc
      have hro : ∀ u, BlwC wr.heap.size wr u → u.heap[N]? = some (.cells (ocells s) 23 (0, 0)) := fun u ⟨u', hu⟩ => by
        subst hu; exact (u'.h.block N y0.lt).trans y0.1
      have hdu : ∀ u : Blw wr.heap.size wr, u.w.cell? ⟨n5, t, none⟩ = some (.int .i64 (d : Int)) := fun u => (u.h.cell (p := ⟨n5, t, none⟩) hn5).trans hdc
      have ne := Blw.ne wr.heap.size wr
      have CB := Bx.mk cb; have CN := Bx.mk cn; have CL := Bx.mk hcl; have RW := Bx.mk hrow; have RL := Bx.mk hlen; have HRO := Bx.mk hro
      clear cb cn hcl hrow hlen hro hce y5 hdc hn5 y0
      go_upto_region 6 with (fail)
      refine wp_region_quiet_tail (C := fun w' => ∃ u : Blw wr.heap.size wr, w' = u.w) 10 (by kernel_rfl) (by kernel_rfl) ⟨⟨_, (Below.refl _ _).drew⟩, rfl⟩ ?_
      simp only [List.take_succ_cons, List.take_zero, List.drop_succ_cons, List.drop_zero]
      go_big_quiet_step (fail)
      go_big_quiet_step (fail)
      go_big_quiet_want
      refine quiet_load_row 23 (.tmp 2) rfl N rfl 23 (ocells s) (0, 0) _ HRO.out underH rfl (hszL SL.out) ?_
      go_big_quiet_on
      simp only [Act.put, List.setIfInBounds_toArray, List.set_cons_succ, List.set_cons_zero]
      go_big_quiet_step (fail)
      go_big_quiet_step (exact Calls.blw (Nat.le_refl _) CB.out)
      go_big_quiet_step (fail)
      go_big_quiet_step (fail)
      go_big_quiet_step (fail)
      go_big_quiet_step (exact Calls.blw (Nat.le_refl _) CN.out)
      go_big_quiet_step (fail)
      refine wpQuiet_nil ?_
      rintro _ ⟨u, rfl⟩
      have s5 := S3.out.below u.h
      have b5 := B3.out.trans (u.h.mono B3.out.size)
      have hroom := s5.room (c := c) (by rw [RL.out]; exact hlt) CL.out
      have hpush := s5.push (c := c) (by rw [RL.out]; exact hlt) CL.out
      have hbs := below_setCells (Nat.le_of_eq HG.out.symm) (ocells c).toList (t * 32) u.w b5
      rw [RL.out] at hroom hpush
      rw [← RW.out] at hpush
      have RM := Bx.mk hroom; have PS := Bx.mk hpush; have BS := Bx.mk hbs
      clear hroom hpush hbs s5 b5 hdu ne
      go_wp2_with (guard_target =~ wpList _ _ _ (⟨none, _, _, _, _, _⟩ :: _) _ _; refine wpList_store_mid rfl 23 (.tmp 25) (.tmp 24) rfl g (t * 32) (ocells c) rfl rfl RM.out (hszL CL.out) (ocells_one _) ?_)
      go_roundw
      case rel => exact ⟨t + 1, hlt, by go_num, PS.out, BS.out⟩
      case measure => simp [intOf]; omega
    · obtain rfl : t = 67 := by omega
      clear hlt ht
      go_wp2_with fail
      go_ret
      exact ⟨g, rfl, by have := K2.out.size; have := HG.out; omega, S3.out, KW.out _ B3.out⟩
end Go.Proofs.YtohifpomdanmkaaGreatDoor
