/- (*sha.Digest).Sum. -/
import Derived.Test.YtfoknhogclfhhaaDoorPad
namespace Go.Proofs.YtfoknhogclfhhaaDoor
set_option maxRecDepth 100000
open Go.RowKit
theorem underH : Tryd.prog.underlying 38 = some (.array 32 5) := by kernel_rfl
theorem sizeH : (Tryd.prog.info? 38).map (·.size) = some 32 := by kernel_rfl
def zeros32 : Array Value := ocells (List.replicate 32 0)
theorem below_refl' (w : World) (n : Nat) : Below w.heap.size w (w.drewN n) := ⟨rfl, rfl, rfl, Nat.le_refl _, fun _ _ => rfl⟩
set_option maxHeartbeats 3200000 in
set_option maxRecDepth 100000 in
theorem dsum_any (base : Nat) (w : World) (p H : Nat) (rv : Value) (m : List UInt8) (hD : Dig base w p H rv m) (hT : Tab w) (hgs : 0 < w.heap.size) (hm : m.length < 576460752303423488) :
    Calls Tryd.prog 16 #[.pointer (some ⟨p, 0, none⟩)] w fun e w' => e = .returned (hv (sha m)) ∧ Below w.heap.size w w' := by
  have k0 : Keep (fun _ => False) w (w.alloc (.cells zeros32 38)) := Keep.alloc _ _ _
  have d0 := hD.kept k0 (fun h => h) (fun h => h) (fun _ _ h => h)
  have t0 := hT.kept k0 hgs (fun h => h)
  have r0 : (w.alloc (.cells zeros32 38)).heap[w.heap.size]? = some (.cells zeros32 38 (0, 0)) := heap_alloc_new _ _
  have s0 : (w.alloc (.cells zeros32 38)).heap.size = w.heap.size + 1 := by simp
  have HD := Bx.mk hD; have HT := Bx.mk hT; have K0 := Bx.mk k0; have D0 := Bx.mk d0; have T0 := Bx.mk t0; have R0 := Bx.mk r0; have S0 := Bx.mk s0
  clear hD hT k0 d0 t0 r0 s0
  go_enter Tryd.func16, Tryd.ntmps16
  go_upto_region 1 with (fail)
  change Code.wp _ _ _ _ (w.alloc (.cells zeros32 38))
  generalize w.alloc (.cells zeros32 38) = W at K0 D0 T0 R0 S0 ⊢
  have c0 := cell_at D0.out.hp 0 _ rfl
  have hc := copy_any base W p H rv m D0.out
  have HC := Bx.mk hc; clear hc
  go_wp2_with fail
  refine HC.out.mono ?_
  rintro e w1 ⟨v1, p1, H1, rv1, rfl, hN⟩
  have hv1 := hN.val
  subst hv1
  have kb := Keep.of_below hN.below (fun _ => False)
  have d1 := D0.out.kept kb (fun h => h) (fun h => h) (fun _ _ h => h)
  obtain ⟨ra, rc, hrv, hrc, hrc2⟩ := d1.shape
  have b1 := cell_at d1.hp 1 _ rfl
  have b2 := cell_at d1.hp 2 _ rfl
  rw [hrv] at b1
  have t1 := T0.out.kept kb (by rw [S0.out]; omega) (fun h => h)
  have hpw : p < w1.heap.size := (Array.getElem?_eq_some_iff.1 d1.hp).1
  have NN := Bx.mk hN; have D1 := Bx.mk d1; have T1 := Bx.mk t1; have HRV := Bx.mk hrv; have KB := Bx.mk kb
  clear hN d1 t1 hrv kb c0 HC
  go_upto_block 0 with (fail)
  go_cut [5] (fun v wc => Below w1.heap.size w1 wc ∧ wc.ownsRow w1.heap.size 5 1 v (1 + zerosOf m.length) (bcells (128 :: List.replicate (zerosOf m.length) 0)))
  case first =>
    go_wp2_with fail
    go_loopw [5] (fun v wr => ∃ t, t ≤ zerosOf m.length ∧ Below w1.heap.size w1 wr ∧ wr.ownsRow w1.heap.size 5 1 v (1 + t) (bcells (128 :: List.replicate t 0))) (fun v _ => 1 + zerosOf m.length - lenOf v)
    case atStart =>
      refine ⟨0, Nat.zero_le _, (Below.refl _ _).alloc (Nat.le_refl _) _, ?_⟩
      exact World.ownsRow_lit w1 _ 1 (Nat.le_refl _) (by simp [maxLen]) rfl
    case round =>
      obtain ⟨t, ht, hb, ho⟩ := hrel
      obtain ⟨a5, c5, hv5, q1, q2, q3⟩ := own_shape ho
      subst hv5
      have e1 : wr.cell? ⟨p, 1, none⟩ = some (.slice ra (m.length % 64) rc) := (hb.cell (p := ⟨p, 1, none⟩) hpw).trans b1
      have HB := Bx.mk hb; have HO := Bx.mk ho
      have hz := zerosOf_lt m.length
      clear hb ho
      by_cases hlt : t < zerosOf m.length
      · have hne := zeros_test m.length t hlt
        have hne2 : ((((m.length : Int) % 64 + (1 + (t : Int))) % 64) != 56) = true := by rw [bne_iff_ne]; omega
        have NE := Bx.mk hne; clear hne
        have hroom : 1 + t + 1 ≤ maxLen := by unfold maxLen; omega
        have hby : (1 + t + 1) * 1 ≤ 140737488355328 := by omega
        obtain ⟨i0, hi, hz0, hz1, hz2⟩ := info_parts info8
        have hoa := HO.out.alloc (.cells #[.int .u8 0] 5)
        have hba : w1.heap.size ≤ (wr.alloc (.cells #[.int .u8 0] 5)).heap.size := by have := HB.out.size; simp; omega
        have hnw : ∀ ad, some (⟨wr.heap.size, 0, none⟩ : Addr) = some ad → ∀ j u, (bcells [0])[j]? = some u → (wr.alloc (.cells #[.int .u8 0] 5)).cell? (ad.add j) = some u := by
          rintro ad had j u hj
          cases had
          match j, hj with
          | 0, hj => simp [bcells, bcell] at hj; subst hj; simp [Addr.add]
        have RI := Bx.mk (And.intro hi (And.intro hz0 (And.intro hz1 hz2))); have Q1 := Bx.mk hroom; have Q2 := Bx.mk hby; have Q3 := Bx.mk hoa; have Q4 := Bx.mk hba; have Q5 := Bx.mk hnw
        clear hi hz0 hz1 hz2 hroom hby hoa hba hnw
        go_wp2_with (refine wpList_append_src rfl (.tmp 38) (.tmp 39) 30 rfl w1.heap.size 5 i0 (.int .u8 0) 1 1 underB RI.out.1 RI.out.2.1 RI.out.2.2.1 RI.out.2.2.2 rfl (by decide) (.slice a5 (1 + t) c5) _ _ rfl Q3.out (some ⟨wr.heap.size, 0, none⟩) 1 1 (bcells [0]) rfl (by simp) rfl Q5.out (bcells_one _) Q1.out Q2.out Q4.out ?_; intro v' w2 hown' hgrow hfr; have G1 := Bx.mk hgrow; have O1 := Bx.mk hown'; clear hgrow hfr hown')
        go_roundw
        case rel =>
          refine ⟨t + 1, hlt, ?_, ?_⟩
          · exact (HB.out.alloc HB.out.size _).grown G1.out (by have := HB.out.size; simp; omega) (fun k hk => ownsRow_fresh HO.out k hk)
          · have := O1.out
            rw [← bcells_append] at this
            rw [show (128 : UInt8) :: List.replicate (t + 1) 0 = 128 :: List.replicate t 0 ++ [0] by rw [List.replicate_succ']; simp]
            exact this
        case measure =>
          obtain ⟨a6, c6, hv6, _⟩ := own_shape O1.out
          rw [hv6]; simp [lenOf]; omega
      · obtain rfl : t = zerosOf m.length := by omega
        have hne := zeros_end m.length
        have hne2 : ((((m.length : Int) % 64 + (1 + (zerosOf m.length : Int))) % 64) != 56) = false := by rw [bne_eq_false_iff_eq]; omega
        have NE := Bx.mk hne; clear hne
        go_wp2_with fail
        go_meet
        case rel => exact ⟨HB.out, HO.out⟩
  case rest =>
    obtain ⟨hb5, ho5⟩ := hcut
    have HB5 := Bx.mk hb5; have HO5 := Bx.mk ho5
    clear hb5 ho5
    obtain ⟨a5, c5, hv5, -, -, -⟩ := own_shape HO5.out
    subst hv5
    have hm8 : (m.length : Int) * 8 ≤ 4611686018427387904 := by omega
    have NOT := True.intro
    go_upto_block 2 with (fail)
    go_cut [5] (fun v wc => Below w1.heap.size w1 wc ∧ wc.ownsRow w1.heap.size 5 1 v (tailOf m.length).length (bcells (tailOf m.length)))
    case first =>
      go_wp2_with fail
      go_loopw [5, 6] (fun v i wr => ∃ t : Nat, t ≤ 8 ∧ i = .int .i64 (56 - 8 * (t : Int)) ∧ Below w1.heap.size w1 wr ∧ wr.ownsRow w1.heap.size 5 1 v (1 + zerosOf m.length + t) (bcells (128 :: List.replicate (zerosOf m.length) 0 ++ be8 (m.length * 8) t))) (fun _ i _ => (intOf i + 8).toNat)
      case atStart => exact ⟨0, Nat.zero_le _, rfl, HB5.out, by simpa [be8] using HO5.out⟩
      case round =>
        obtain ⟨t, ht, rfl, hb, ho⟩ := hrel
        obtain ⟨a6, c6, hv6, q1, q2, q3⟩ := own_shape ho
        subst hv6
        have HB := Bx.mk hb; have HO := Bx.mk ho
        have hz := zerosOf_lt m.length
        clear hb ho
        by_cases hlt : t < 8
        · have hroom : 1 + zerosOf m.length + t + 1 ≤ maxLen := by unfold maxLen; omega
          have hby : (1 + zerosOf m.length + t + 1) * 1 ≤ 140737488355328 := by omega
          have h0t : 0 ≤ 56 - 8 * (t : Int) := by omega
          have h1t : 56 - 8 * (t : Int) ≤ 64 := by omega
          have hu : byteOf (((m.length * 8 : Nat) : Int) / 2 ^ (56 - 8 * t)) = byteOf (((m.length : Int) * 8) / 2 ^ (56 - 8 * t)) := by push_cast; rfl
          obtain ⟨i0, hi, hz0, hz1, hz2⟩ := info_parts info8
          have hval := bcell_byteOf (((m.length : Int) * 8) / 2 ^ (56 - 8 * t))
          have hoa := fun u => HO.out.alloc (.cells #[u] 5)
          have hba : ∀ u, w1.heap.size ≤ (wr.alloc (.cells #[u] 5)).heap.size := fun u => by have := HB.out.size; simp; omega
          have hnw : ∀ u : Value, u.oneCell' = true → ∀ ad, some (⟨wr.heap.size, 0, none⟩ : Addr) = some ad → ∀ j x, [u][j]? = some x → (wr.alloc (.cells #[u] 5)).cell? (ad.add j) = some x := by
            rintro u hu ad had j x hj
            cases had
            match j, hj with
            | 0, hj => simp at hj; subst hj; simp [Addr.add]
          have RI := Bx.mk (And.intro hi (And.intro hz0 (And.intro hz1 hz2))); have Q1 := Bx.mk hroom; have Q2 := Bx.mk hby; have Q3 := Bx.mk hoa; have Q4 := Bx.mk hba; have Q5 := Bx.mk hnw; have Q6 := Bx.mk hval; have Q7 := Bx.mk hu
          clear hi hz0 hz1 hz2 hroom hby hoa hba hnw hval hu
          go_wp2_with (refine wpList_append_src rfl (.tmp 45) (.tmp 50) 30 rfl w1.heap.size 5 i0 (.int .u8 0) 1 1 underB RI.out.1 RI.out.2.1 RI.out.2.2.1 RI.out.2.2.2 rfl (by decide) (.slice a6 (1 + zerosOf m.length + t) c6) _ _ rfl (Q3.out _) (some ⟨wr.heap.size, 0, none⟩) 1 1 [.int .u8 (((m.length : Int) * 8) / 2 ^ (56 - 8 * t) % 256)] rfl (by simp) rfl (Q5.out _ rfl) (by simp [Value.oneCell']) Q1.out Q2.out (Q4.out _) ?_; intro v' w2 hown' hgrow hfr; have G1 := Bx.mk hgrow; have O1 := Bx.mk hown'; clear hgrow hfr hown')
          go_roundw
          case rel =>
            refine ⟨t + 1, hlt, by go_num, ?_, ?_⟩
            · exact (HB.out.alloc HB.out.size _).grown G1.out (by have := HB.out.size; simp; omega) (fun k hk => ownsRow_fresh HO.out k hk)
            · have := O1.out
              rw [← Q6.out, ← Q7.out] at this
              rw [be8, ← List.append_assoc, bcells_append]
              exact this
          case measure => simp [intOf]; omega
        · obtain rfl : t = 8 := by omega
          go_wp2_with fail
          go_meet
          case rel => exact ⟨HB.out, by rw [tailOf_length, show zerosOf m.length + 9 = 1 + zerosOf m.length + 8 by omega]; exact HO.out⟩
    case rest =>
      obtain ⟨hb6, ho6⟩ := hcut
      have hsrc := own_to_src ho6
      obtain ⟨a7, c7, hv7, q1, q2, q3⟩ := own_shape ho6
      subst hv7
      have kb6 := Keep.of_below hb6 (fun _ => False)
      have n6 := NN.out.dig.kept kb6 (fun h => h) (fun h => h) (fun _ _ h => h)
      have t6 := T1.out.kept kb6 (by have := KB.out.size; rw [S0.out] at this; omega) (fun h => h)
      have hne : ∀ k, (Value.slice a7 (tailOf m.length).length c7).ownBlock = some k → k ≠ p1 ∧ k ≠ H1 ∧ rv1.ownBlock ≠ some k := fun k hk => by
        have h1 := ownsRow_fresh ho6 k hk
        have h2 := (Array.getElem?_eq_some_iff.1 NN.out.dig.hp).1
        have h3 := (Array.getElem?_eq_some_iff.1 NN.out.dig.hH).1
        refine ⟨by omega, by omega, fun h => ?_⟩
        have := (NN.out.dig.hr.lt k h).2
        omega
      have hcw := write_any W.heap.size wc p1 H1 rv1 _ m (tailOf m.length) n6 t6 (by rw [S0.out]; omega) hsrc hne (by have := zerosOf_lt m.length; rw [tailOf_length]; omega) (Nat.le_trans KB.out.size hb6.size)
      have HCW := Bx.mk hcw; have HB6 := Bx.mk hb6
      clear hcw hsrc kb6 n6 t6 hne hb6 ho6 hrc hrc2 b1 b2
      go_wp2_with fail
      refine HCW.out.mono ?_
      rintro e w3 ⟨rfl, rv3, hd3, hk3, ho3⟩
      have hb3 : Below W.heap.size W w3 := (Below.trans NN.out.below (HB6.out.mono KB.out.size)).trans (hk3.below (Nat.le_trans KB.out.size HB6.out.size) (fun k hk => NN.out.dig.ge k hk))
      have D3 := Bx.mk hd3; have B3 := Bx.mk hb3
      clear hd3 hk3 ho3 HCW
      have g0 := cell_at D3.out.hp 0 _ rfl
      have hp1 : p1 < w3.heap.size := (Array.getElem?_eq_some_iff.1 D3.out.hp).1
      generalize hX : fold Go.Proofs.YtfoknhogclfhhaaDoor.R0 (m ++ tailOf m.length) ((m ++ tailOf m.length).length / 64) = X
      have hHX := D3.out.hH
      rw [hX] at hHX
      have HX := Bx.mk hX; have HHX := Bx.mk hHX
      clear hX hHX
      go_upto_block 4 with (fail)
      go_cut [] (fun wc => ∃ k, wc = (w3.alloc (.cells (ocells (outOf X.list)) 38)).drewN k)
      case first =>
        go_wp2_with fail
        go_loopw [59] (fun i wr => ∃ t k : Nat, t ≤ 8 ∧ i = .int .i64 t ∧ wr = (w3.alloc (.cells (ocells (outT X.list t)) 38)).drewN k) (fun i _ => 8 - (intOf i).toNat)
        case atStart => exact ⟨0, 0, by omega, rfl, by rw [outT_zero]; rfl⟩
        case round =>
          obtain ⟨t, k, ht, rfl, rfl⟩ := hrel
          by_cases hlt : t < 8
          · have hHs : H1 < w3.heap.size := (Array.getElem?_eq_some_iff.1 HHX.out).1
            have c0 := cell_old w3 (.cells (ocells (outT X.list t)) 38) k H1 _ _ hHs (cell_of_vals HHX.out t (by simpa [R8.list] using hlt))
            have hl := outT_length X.list t rfl ht
            have cs : ∀ j, j < 32 → ∃ v, ((w3.alloc (.cells (ocells (outT X.list t)) 38)).drewN k).cell? ⟨w3.heap.size, j, none⟩ = some v := fun j hj => by
              rw [World.cell?_drewN, World.cell?_alloc_at _ _ _ _ rfl]
              exact ⟨_, ocells_get _ j (by omega)⟩
            have fs : ∀ j, ((w3.alloc (.cells (ocells (outT X.list t)) 38)).drewN k).frozen? ⟨w3.heap.size, j, none⟩ = false := fun j => by
              rw [World.frozen?_drewN, World.frozen?_alloc_at _ _ _ _ rfl]
            obtain ⟨x0, k0⟩ := cs (4 * t) (by omega)
            obtain ⟨x1, k1⟩ := cs (4 * t + 1) (by omega)
            obtain ⟨x2, k2⟩ := cs (4 * t + 2) (by omega)
            obtain ⟨x3, k3⟩ := cs (4 * t + 3) (by omega)
            have f0 := fs (4 * t); have f1 := fs (4 * t + 1); have f2 := fs (4 * t + 2); have f3 := fs (4 * t + 3)
            clear cs fs hl
            generalize hW : (w3.alloc (.cells (ocells (outT X.list t)) 38)).drewN k = V at c0 k0 k1 k2 k3 f0 f1 f2 f3 ⊢
            have HV := Bx.mk hW; clear hW
            generalize hx : X.list.getD t 0 = x at c0
            have HXX := Bx.mk hx; clear hx
            have i0 : 0 ≤ 4 * (t : Int) := by omega
            have i1 : 4 * (t : Int) < 32 := by omega
            go_wp2_with fail
            go_quiet (fail)
            go_wp2_with fail
            go_roundw
            case rel =>
              refine ⟨t + 1, k + nq, hlt, by go_num, ?_⟩
              rw [← HV.out]
              exact store4 w3 38 X.list k nq t x rfl hlt HXX.out
            case measure => simp [intOf]; omega
          · obtain rfl : t = 8 := by omega
            go_wp2_with fail
            go_meet
            case rel => exact ⟨k, by rw [outT_whole _ rfl]⟩
      case rest =>
        obtain ⟨k, rfl⟩ := hcut
        have hw3 : w.heap.size < w3.heap.size := by have := B3.out.size; rw [S0.out] at this; omega
        have q0 : ((w3.alloc (.cells (ocells (outOf X.list)) 38)).drewN k).heap[w3.heap.size]? = some (.cells (ocells (outOf X.list)) 38 (0, 0)) := heap_alloc_new _ _
        have q1 : ((w3.alloc (.cells (ocells (outOf X.list)) 38)).drewN k).heap[w.heap.size]? = some (.cells zeros32 38 (0, 0)) := by
          rw [World.heap_drewN, Below.heap_alloc _ _ _ hw3]
          exact (B3.out.block _ (by rw [S0.out]; omega)).trans R0.out
        have q2 : Below w.heap.size w ((w3.alloc (.cells (ocells (outOf X.list)) 38)).drewN k) := below_drewN' (((K0.out.below (Nat.le_refl _) (fun _ h => h.elim)).trans (B3.out.mono (by rw [S0.out]; omega))).alloc (by omega) _) k
        generalize (w3.alloc (.cells (ocells (outOf X.list)) 38)).drewN k = Y at q0 q1 q2 ⊢
        have Q0 := Bx.mk q0; have Q1 := Bx.mk q1; have Q2 := Bx.mk q2; clear q0 q1 q2
        have hsz : (Tryd.prog.info? 38).map (·.size) = some (ocells (outOf X.list)).size := by rw [sizeH, ocells_size, outOf_length]; rfl
        have hso : zeros32.size = (ocells (outOf X.list)).size := by unfold zeros32; rw [ocells_size, ocells_size, outOf_length]; rfl
        have HSZ := Bx.mk hsz; have HSO := Bx.mk hso; clear hsz hso
        go_upto_region 19 with (fail)
        apply wp_region_lit
        refine wpList_load_row rfl 38 (.tmp 7) rfl w3.heap.size rfl _ _ _ _ Q0.out underH rfl HSZ.out ?_
        refine wpList_store_row rfl 38 (.tmp 2) (.tmp 92) rfl w.heap.size (ocells (outOf X.list)) rfl rfl _ _ Q1.out HSZ.out HSO.out (ocells_one _) ?_
        refine wpList_nil ?_
        go_wp2_with fail
        refine bodyPost_ret (results_cell_row rfl _ _ w.heap.size _ (ocells (outOf X.list)) _ _ rfl (setRow_heap _ _ _ _ _ _ Q1.out) underH rfl HSZ.out) rfl ⟨?_, below_setRow Q2.out (Nat.le_refl _) _⟩
        have hs : sha m = outOf X.list := by rw [← HX.out]; rfl
        rw [hs]; rfl
end Go.Proofs.YtfoknhogclfhhaaDoor
