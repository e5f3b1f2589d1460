/- cartularyref22.bytes, On, Close. -/
import Derived.Test.YtohifpomdanmkaaGreatDoorOrf
namespace Go.Proofs.YtohifpomdanmkaaGreatDoor
set_option maxRecDepth 100000
open Go.RowKit
theorem rb22_any (w : World) (a : List UInt8) (ha : a.length = 32) : Calls Tryz.prog 69 #[hv a] w fun e w' => e = .returned (.string (bstr a)) ∧ Below w.heap.size w w' := by
  have x0 := HashAt.new w a ha
  have b0 : Below w.heap.size w (w.alloc (.cells (ocells a) 23)) := er_al (Below.refl _ _) _
  have hs := str_src (src_block x0.1 (by rw [ha]; decide)) (by rintro rfl; cases ha)
  rw [ha] at hs
  unfold hv
  go_enter Tryz.func69, Tryz.ntmps69
  go_upto_region 1 with (fail)
  change Code.wp _ _ _ _ (w.alloc (.cells (ocells a) 23))
  generalize w.alloc (.cells (ocells a) 23) = W at x0 b0 hs ⊢
  have B0 := Bx.mk b0
  clear x0 b0 ha
  go_wp2_with fail
  go_ret
  exact ⟨rfl, B0.out⟩
set_option maxHeartbeats 1600000 in
theorem on22_any (w : World) (h : List UInt8) (hh : h.length = 32) (n : Nat) (hn : n ≤ 255) :
    Calls Tryz.prog 12 #[hv h, .int .i64 (n : Int)] w fun e w' => e = .returned (hv (chainN h n)) ∧ Below w.heap.size w w' := by
  have x0 := (HashAt.new w h hh).below (er_al (Below.refl _ _) (.cells zeros32 23))
  have x1 : ((w.alloc (.cells (ocells h) 23)).alloc (.cells zeros32 23)).heap[w.heap.size + 1]? = some (.cells zeros32 23 (0, 0)) := by
    simpa using heap_alloc_new (w.alloc (.cells (ocells h) 23)) (.cells zeros32 23)
  have kb : Below w.heap.size w ((w.alloc (.cells (ocells h) 23)).alloc (.cells zeros32 23)) := er_al (er_al (Below.refl _ _) _) _
  have HH := Bx.mk hh
  clear hh
  unfold hv
  go_enter Tryz.func12, Tryz.ntmps12
  go_upto_region 1 with (fail)
  change Code.wp _ _ _ _ ((w.alloc (.cells (ocells h) 23)).alloc (.cells zeros32 23))
  generalize (w.alloc (.cells (ocells h) 23)).alloc (.cells zeros32 23) = W at x0 x1 kb ⊢
  have X0 := Bx.mk x0.1; have X1 := Bx.mk x1; have KB := Bx.mk kb
  clear x0 x1 kb
  go_wp2_with fail
  go_loopw [5] (fun i wr => ∃ t : Nat, t ≤ n ∧ i = .int .i64 (t : Int) ∧ wr.heap[w.heap.size]? = some (.cells (ocells (chainN h t)) 23 (0, 0)) ∧ wr.heap[w.heap.size + 1]? = some (.cells zeros32 23 (0, 0)) ∧ Below w.heap.size w wr) (fun i _ => n - (intOf i).toNat)
  case atStart => exact ⟨0, Nat.zero_le _, rfl, X0.out, X1.out, KB.out⟩
  case round =>
    obtain ⟨t, ht, rfl, hu0, hu1, hb⟩ := hrel
    have hlen := chainN_length HH.out t
    have HL := Bx.mk hlen; have HU0 := Bx.mk hu0; have HU1 := Bx.mk hu1; have HB := Bx.mk hb
    clear hlen hu0 hu1 hb
    by_cases hlt : t < n
    · have c1 := rb22_any wr (chainN h t) HL.out
      rw [hv_agg] at c1
      have c2 := fun u => rsum_any u (⟨#[2]⟩ ++ bstr (chainN h t)) (by rw [ByteArray.size_append, bstr_size, HL.out]; decide)
      rw [sb_app, sb_bstr, show sb ⟨#[2]⟩ ++ chainN h t = 2 :: chainN h t from rfl] at c2
      have ha := fun u => run_string_add_sum (P := Tryz.prog) u ⟨#[2]⟩ (bstr (chainN h t)) (by rw [bstr_size, HL.out]; decide)
      have C1 := Bx.mk c1; have C2 := Bx.mk c2; clear c1 c2
      go_wp2_with (guard_target =~ wpList _ _ _ (⟨some 11, _, _, _, _, _⟩ :: _) _ _; refine wpList_load_row rfl 23 (.tmp 2) rfl w.heap.size rfl _ _ _ _ HU0.out underH rfl (hszL HL.out) ?_)
      refine C1.out.mono ?_
      rintro e w1 ⟨rfl, hb1⟩
      have B1 := Bx.mk hb1; clear hb1
      go_wp2_with fail
      refine (C2.out w1).mono ?_
      rintro e w4 ⟨rfl, hb4⟩
      have l0 := (Array.getElem?_eq_some_iff.1 HU0.out).1
      have l1 := (Array.getElem?_eq_some_iff.1 HU1.out).1
      have b4 := B1.out.trans (hb4.mono B1.out.size)
      have q0 := (b4.block _ l0).trans HU0.out
      have q1 := (b4.block _ l1).trans HU1.out
      have q2 : Below w.heap.size w w4 := HB.out.trans (b4.mono HB.out.size)
      have hso : (ocells (chainN h t)).size = (ocells (sha (2 :: chainN h t))).size := by rw [ocells_size, ocells_size, HL.out, sha_length]
      have Q0 := Bx.mk q0; have Q1 := Bx.mk q1; have Q2 := Bx.mk q2; have HSZ := Bx.mk (hszL (sha_length (2 :: chainN h t))); have HSO := Bx.mk hso
      clear hb4 b4 q0 q1 q2 l0 l1 hso ha
      go_wp2_with (guard_target =~ wpList _ _ _ (⟨none, _, _, _, _, _⟩ :: _) _ _; refine wpList_store_row rfl 23 (.tmp 2) (.tmp 14) rfl w.heap.size (ocells (sha (2 :: chainN h t))) rfl rfl _ _ Q0.out HSZ.out HSO.out (ocells_one _) ?_)
      go_roundw
      case rel =>
        refine ⟨t + 1, hlt, by go_num, setRow_heap _ _ _ _ _ _ Q0.out, ?_, below_setRow Q2.out (Nat.le_refl _) _⟩
        rw [heap_setRow_other _ _ _ _ (by omega)]
        exact Q1.out
      case measure => simp [intOf]; omega
    · obtain rfl : t = n := by omega
      have HSZ := Bx.mk (hszL HL.out); have HSO := Bx.mk (hsoL HL.out)
      clear hlt ht
      go_wp2_with (first
        | (guard_target =~ wpList _ _ _ (⟨some 15, _, _, _, _, _⟩ :: _) _ _; refine wpList_load_row rfl 23 (.tmp 2) rfl w.heap.size rfl _ _ _ _ HU0.out underH rfl HSZ.out ?_)
        | (guard_target =~ wpList _ _ _ (⟨none, _, _, _, _, _⟩ :: _) _ _; refine wpList_store_row rfl 23 (.tmp 4) (.tmp 15) rfl (w.heap.size + 1) (ocells (chainN h t)) rfl rfl _ _ HU1.out HSZ.out HSO.out (ocells_one _) ?_))
      exact bodyPost_ret (results_cell_row rfl _ _ (w.heap.size + 1) _ (ocells (chainN h t)) _ _ rfl (setRow_heap _ _ _ _ _ _ HU1.out) underH rfl HSZ.out) rfl ⟨rfl, below_setRow HB.out (by omega) _⟩
theorem flat_take_len {hs : List (List UInt8)} (h : ∀ x ∈ hs, x.length = 32) (t : Nat) (ht : t ≤ hs.length) : ((4 :: (hs.take t).flatten : List UInt8)).length = 1 + 32 * t := by
  have h1 := flat_lenH (hs := hs.take t) (fun x hx => h x (List.mem_of_mem_take hx))
  rw [List.length_cons, h1, List.length_take]
  omega
set_option maxHeartbeats 1600000 in
theorem close22_any (w : World) (ad : Option Addr) (n cap : Nat) (hs : List (List UInt8)) (hH : Hss w (.slice ad n cap) hs) (hm : hs.length ≤ 1048576) :
    Calls Tryz.prog 18 #[.slice ad n cap] w fun e w' => e = .returned (hv (sha (4 :: hs.flatten))) ∧ Below w.heap.size w w' := by
  have r0 : (w.alloc (.cells zeros32 23)).heap[w.heap.size]? = some (.cells zeros32 23 (0, 0)) := heap_alloc_new _ _
  have s0 : (w.alloc (.cells zeros32 23)).heap.size = w.heap.size + 1 := by simp
  have k0 : Below w.heap.size w (w.alloc (.cells zeros32 23)) := er_al (Below.refl _ _) _
  obtain ⟨_, c', e1, hc1, hc2⟩ := hH.len
  have hcc : cap = c' := by cases e1; rfl
  subst hcc
  have hn : n = hs.length := by cases e1; rfl
  subst hn
  have R0' := Bx.mk r0; have S0 := Bx.mk s0; have K0 := Bx.mk k0; have HHS := Bx.mk (hH.below k0); have HM := Bx.mk hm
  clear r0 s0 k0 hH e1
  obtain ⟨l, hl⟩ : ∃ l, l = hs.length := ⟨_, rfl⟩
  rw [← hl] at HHS hc1 ⊢
  have HL := Bx.mk hl
  clear hl hm
  go_enter Tryz.func18, Tryz.ntmps18
  go_upto_region 1 with (fail)
  change Code.wp _ _ _ _ (w.alloc (.cells zeros32 23))
  generalize w.alloc (.cells zeros32 23) = W at R0' S0 K0 HHS ⊢
  go_wp2_with fail
  go_loopw [3, 4] (fun sv iv wr => ∃ (t : Nat), t ≤ l ∧ iv = .int .i64 (t : Int) ∧ sv = .string (bstr (4 :: (hs.take t).flatten)) ∧ Below W.heap.size W wr) (fun _ iv _ => l - (intOf iv).toNat)
  case atStart => exact ⟨0, Nat.zero_le _, rfl, rfl, Below.refl _ _⟩
  case round =>
    obtain ⟨t, ht, rfl, rfl, hb⟩ := hrel
    have B3 := Bx.mk hb
    clear hb
    by_cases hlt : t < l
    · have hll := HL.out
      have hts : t < hs.length := by omega
      obtain ⟨hnl, hc1', hc2', Ba, off, rfl, hBl, hr, hpl⟩ := (HHS.out.below B3.out).at t hts
      obtain ⟨px, hpx⟩ : ∃ px, px = hs[t] := ⟨_, rfl⟩
      have hsn : (4 : UInt8) :: (hs.take (t + 1)).flatten = (4 :: (hs.take t).flatten) ++ px := by
        rw [List.take_succ_eq_append_getElem hts, List.flatten_append, ← hpx]; simp
      have hlen := flat_take_len HHS.out.1 t (by omega)
      have hm := HM.out
      rw [← hpx] at hr hpl
      have c1 := rb22_any wr px hpl
      rw [hv_agg] at c1
      generalize (4 : UInt8) :: (hs.take t).flatten = L at hsn hlen ⊢
      have ha := fun u => run_string_add_sum (P := Tryz.prog) u (bstr L) (bstr px) (by rw [bstr_size, bstr_size, hlen, hpl]; omega)
      rw [show bstr L ++ bstr px = bstr (L ++ px) by simp [bstr]; rfl] at ha
      have R1 := Bx.mk hr; have PX := Bx.mk hpl; have SN := Bx.mk hsn; have C1 := Bx.mk c1
      clear hr hpl hsn hlen hpx hBl hll hnl hm c1
      go_wp2_with (guard_target =~ wpList _ _ _ (⟨some 15, _, _, _, _, _⟩ :: _) _ _; refine wpList_load_mid rfl 23 (.tmp 14) rfl Ba (off + t * 32) rfl (bcells px) _ R1.out underH rfl (hszB' PX.out) ?_)
      refine C1.out.mono ?_
      rintro e w1 ⟨rfl, hb1⟩
      have B1 := Bx.mk (B3.out.trans (hb1.mono B3.out.size)); clear hb1
      go_wp2_with fail
      go_roundw
      case rel => exact ⟨t + 1, hlt, by go_num, by rw [SN.out], B1.out⟩
      case measure => simp [intOf]; omega
    · obtain rfl : t = l := by omega
      have hll := HL.out
      have hlen := flat_take_len HHS.out.1 t (by omega)
      have hm := HM.out
      have ht' : hs.take t = hs := by rw [hll, List.take_length]
      rw [ht'] at hlen ⊢
      have c2 := rsum_any wr (bstr (4 :: hs.flatten)) (by rw [bstr_size, hlen]; omega)
      rw [sb_bstr] at c2
      have C2 := Bx.mk c2
      clear c2 hlen hm ht' hlt
      generalize bstr (4 :: hs.flatten) = z at C2 ⊢
      go_wp2_with fail
      refine C2.out.mono ?_
      rintro e w4 ⟨rfl, hb4⟩
      have q1 := (hb4.block w.heap.size (by have := B3.out.size; rw [S0.out] at this; omega)).trans ((B3.out.block _ (by rw [S0.out]; omega)).trans R0'.out)
      have q2 : Below w.heap.size w w4 := K0.out.trans ((B3.out.mono (by rw [S0.out]; omega)).trans (hb4.mono (by have := B3.out.size; rw [S0.out] at this; omega)))
      have Q1 := Bx.mk q1; have Q2 := Bx.mk q2
      clear hb4 q1 q2
      go_wp2_with (refine wpList_store_row rfl 23 (.tmp 2) (.tmp 19) rfl w.heap.size (ocells (sha (4 :: hs.flatten))) rfl rfl _ _ Q1.out (hszL (sha_length _)) (hsoL (sha_length _)) (ocells_one _) ?_)
      exact bodyPost_ret (results_cell_row rfl _ _ w.heap.size _ (ocells (sha (4 :: hs.flatten))) _ _ rfl (setRow_heap _ _ _ _ _ _ Q1.out) underH rfl (hszL (sha_length _))) rfl ⟨rfl, below_setRow Q2.out (Nat.le_refl _) _⟩
end Go.Proofs.YtohifpomdanmkaaGreatDoor
