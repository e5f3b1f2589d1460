/- cartularylaw22.digits walked: the digits, told once more. -/
import Derived.Test.YtohifpomdanmkaaDoorOra
namespace Go.Proofs.YtohifpomdanmkaaDoor
set_option maxRecDepth 100000
open Go.RowKit
theorem sizeA (f : Nat → Nat) : (Tryd.prog.info? 42).map (·.size) = some (dcells f).size := by rw [dcells_size]; kernel_rfl
set_option maxHeartbeats 1600000 in
theorem digits22_any (w : World) (m : List UInt8) (hm : m.length = 32) :
    Calls Tryd.prog 16 #[hv m] w fun e w' => e = .returned (.agg (dcells (dall m))) ∧ Below w.heap.size w w' := by
  have x0 := ((HashAt.new w m hm).below (er_al (Below.refl _ _) (.cells (dcells fun _ => 0) 42))).below (er_al (Below.refl _ _) (.cells (dcells fun _ => 0) 42))
  have kb : Below w.heap.size w (((w.alloc (.cells (ocells m) 23)).alloc (.cells (dcells fun _ => 0) 42)).alloc (.cells (dcells fun _ => 0) 42)) := er_al (er_al (er_al (Below.refl _ _) _) _) _
  have x2 : (((w.alloc (.cells (ocells m) 23)).alloc (.cells (dcells fun _ => 0) 42)).alloc (.cells (dcells fun _ => 0) 42)).heap[w.heap.size + 1]? = some (.cells (dcells fun _ => 0) 42 (0, 0)) := by
    rw [Below.heap_alloc _ _ _ (by simp)]; simpa using heap_alloc_new (w.alloc (.cells (ocells m) 23)) (.cells (dcells fun _ => 0) 42)
  have x3 : (((w.alloc (.cells (ocells m) 23)).alloc (.cells (dcells fun _ => 0) 42)).alloc (.cells (dcells fun _ => 0) 42)).heap[w.heap.size + 2]? = some (.cells (dcells fun _ => 0) 42 (0, 0)) := by
    simpa using heap_alloc_new ((w.alloc (.cells (ocells m) 23)).alloc (.cells (dcells fun _ => 0) 42)) (.cells (dcells fun _ => 0) 42)
  have ML := Bx.mk hm
  clear hm
  unfold hv
  go_enter Tryd.func16, Tryd.ntmps16
  go_upto_region 2 with (fail)
  change Code.wp _ _ _ _ (((w.alloc (.cells (ocells m) 23)).alloc (.cells (dcells fun _ => 0) 42)).alloc (.cells (dcells fun _ => 0) 42))
  generalize ((w.alloc (.cells (ocells m) 23)).alloc (.cells (dcells fun _ => 0) 42)).alloc (.cells (dcells fun _ => 0) 42) = W at x0 kb x2 x3 ⊢
  obtain ⟨N, hN⟩ : ∃ N, N = w.heap.size := ⟨_, rfl⟩
  rw [← hN] at x0 kb x2 x3 ⊢
  have X0 := Bx.mk x0; have X2 := Bx.mk x2; have X3 := Bx.mk x3; have KB := Bx.mk kb; have HN := Bx.mk hN
  clear x0 x2 x3 kb hN
  go_wp2_with fail
  go_loopw [4, 5] (fun sv iv wr => ∃ t : Nat, t ≤ 64 ∧ iv = .int .i64 (t : Int) ∧ sv = .int .i64 ((960 - 15 * t + dlack m t : Nat) : Int) ∧ wr.heap[N + 2]? = some (.cells (dcells fun j => if j < t then dg m j else 0) 42 (0, 0)) ∧ wr.heap[N + 1]? = some (.cells (dcells fun _ => 0) 42 (0, 0)) ∧ HashAt wr N m ∧ Below N w wr) (fun _ iv _ => 64 - (intOf iv).toNat)
  case atStart => exact ⟨0, by decide, rfl, rfl, by rw [show (fun j => if j < 0 then dg m j else 0) = (fun _ => 0) from funext fun j => by simp]; exact X3.out, X2.out, X0.out, KB.out⟩
  case round =>
    obtain ⟨t, ht, rfl, rfl, h3, h2, h0, hb⟩ := hrel
    have H3 := Bx.mk h3; have H2 := Bx.mk h2; have H0 := Bx.mk h0; have BB := Bx.mk hb
    have hle := dlack_le m t
    have hdl := dg_lt m t
    have hrt := h3
    clear h3 h2 h0 hb X0 X2 X3 KB
    by_cases hlt : t < 64
    · have hq : (t : Int).tdiv 2 = ((t / 2 : Nat) : Int) := by rw [Int.tdiv_eq_ediv_of_nonneg (by omega)]; omega
      have hqb : t / 2 < 32 := by omega
      have hcell := H0.out.cell (t / 2) ((m.getD (t / 2) 0).toNat : Int) (by
        have : t / 2 < m.length := by rw [ML.out]; omega
        simp [ocells, bcells, bcell, this])
      have hdg : dg m t = (m.getD (t / 2) 0).toNat / 16 ^ (1 - t % 2) % 16 := rfl
      have hbl : (m.getD (t / 2) 0).toNat < 256 := (m.getD (t / 2) 0).toNat_lt
      generalize (m.getD (t / 2) 0).toNat = c at hcell hdg hbl
      have hsnoc : dlack m (t + 1) = dlack m t + (15 - dg m t) := rfl
      generalize t / 2 = q at hq hqb hcell
      generalize hdd : dg m t = d at *
      have HDG := Bx.mk hdg; have HDD := Bx.mk hdd; have HSN := Bx.mk hsnoc
      clear hdg hsnoc hdd
      rcases Nat.mod_two_eq_zero_or_one t with hr | hr
      · have hm : (t : Int).tmod 2 = 0 := by rw [Int.tmod_eq_emod_of_nonneg (by omega)]; omega
        have hdv := HDG.out
        rw [hr] at hdv
        have e : bits .and .i64 ((c : Int) / 16) 15 = (d : Int) := by rw [show (c : Int) / 16 = ((c / 16 : Nat) : Int) by omega, and15 _ (by omega)]; simp at hdv; omega
        have hc3 := er_cellAt hrt t (.int .i64 0) (by rw [dcells_get _ _ (by omega), if_neg (by omega)]; rfl)
        have hf3 := er_frozen hrt t
        have hlt2 := (Array.getElem?_eq_some_iff.1 hrt).1
        clear hdv hr
        go_upto_region 7 with (fail)
        have h3' : (wr.setCell ⟨N + 2, t, none⟩ (.int .i64 (d : Int))).heap[N + 2]? = some (.cells (dcells fun j => if j < t + 1 then dg m j else 0) 42 (0, 0)) := by
          have : (wr.setCell ⟨N + 2, t, none⟩ (.int .i64 (d : Int))).heap[N + 2]? = some (.cells ((dcells fun j => if j < t then dg m j else 0).setIfInBounds t (.int .i64 (d : Int))) 42 (0, 0)) := by
            simp [World.setCell, Array.getElem?_modify, H3.out]
          rw [this, dcells_set, dcells_congr (g := fun j => if j < t + 1 then dg m j else 0) (fun j _ => ?_)]
          by_cases hj : j = t
          · subst hj; simp [HDD.out]
          · rw [if_neg hj]
            by_cases hj2 : j < t
            · rw [if_pos hj2, if_pos (by omega)]
            · rw [if_neg hj2, if_neg (by omega)]
        have h2' : (wr.setCell ⟨N + 2, t, none⟩ (.int .i64 (d : Int))).heap[N + 1]? = some (.cells (dcells fun _ => 0) 42 (0, 0)) := (Below.heap_setCell _ _ _ _ (show N + 1 ≠ N + 2 by omega)).trans H2.out
        have h0' : HashAt (wr.setCell ⟨N + 2, t, none⟩ (.int .i64 (d : Int))) N m := ⟨(Below.heap_setCell _ _ _ _ (show N ≠ N + 2 by omega)).trans H0.out.1, ML.out⟩
        have hb' : Below N w (wr.setCell ⟨N + 2, t, none⟩ (.int .i64 (d : Int))) := BB.out.setCell (show N ≤ N + 2 by omega) _
        clear hc3 hf3
        generalize wr.setCell ⟨N + 2, t, none⟩ (.int .i64 (d : Int)) = wv at h3' h2' h0' hb' ⊢
        have hc4 := er_cellAt h3' t (.int .i64 (d : Int)) (by rw [dcells_get _ _ (by omega), if_pos (by omega), HDD.out])
        have H3' := Bx.mk h3'; have H2' := Bx.mk h2'; have H0' := Bx.mk h0'; have BB' := Bx.mk hb'
        clear h3' h2' h0' hb' hrt e
        go_wp2_with fail
        go_roundw
        case rel => exact ⟨t + 1, by omega, by go_num, by rw [HSN.out]; congr 1; omega, H3'.out, H2'.out, H0'.out, BB'.out⟩
        case measure => simp [intOf]; omega
      · have hm : (t : Int).tmod 2 = 1 := by rw [Int.tmod_eq_emod_of_nonneg (by omega)]; omega
        have hdv := HDG.out
        rw [hr] at hdv
        have e : bits .and .i64 (c : Int) 15 = (d : Int) := by rw [and15 _ (by omega)]; simp at hdv; omega
        have hc3 := er_cellAt hrt t (.int .i64 0) (by rw [dcells_get _ _ (by omega), if_neg (by omega)]; rfl)
        have hf3 := er_frozen hrt t
        have hlt2 := (Array.getElem?_eq_some_iff.1 hrt).1
        clear hdv hr
        go_upto_region 7 with (fail)
        have h3' : (wr.setCell ⟨N + 2, t, none⟩ (.int .i64 (d : Int))).heap[N + 2]? = some (.cells (dcells fun j => if j < t + 1 then dg m j else 0) 42 (0, 0)) := by
          have : (wr.setCell ⟨N + 2, t, none⟩ (.int .i64 (d : Int))).heap[N + 2]? = some (.cells ((dcells fun j => if j < t then dg m j else 0).setIfInBounds t (.int .i64 (d : Int))) 42 (0, 0)) := by
            simp [World.setCell, Array.getElem?_modify, H3.out]
          rw [this, dcells_set, dcells_congr (g := fun j => if j < t + 1 then dg m j else 0) (fun j _ => ?_)]
          by_cases hj : j = t
          · subst hj; simp [HDD.out]
          · rw [if_neg hj]
            by_cases hj2 : j < t
            · rw [if_pos hj2, if_pos (by omega)]
            · rw [if_neg hj2, if_neg (by omega)]
        have h2' : (wr.setCell ⟨N + 2, t, none⟩ (.int .i64 (d : Int))).heap[N + 1]? = some (.cells (dcells fun _ => 0) 42 (0, 0)) := (Below.heap_setCell _ _ _ _ (show N + 1 ≠ N + 2 by omega)).trans H2.out
        have h0' : HashAt (wr.setCell ⟨N + 2, t, none⟩ (.int .i64 (d : Int))) N m := ⟨(Below.heap_setCell _ _ _ _ (show N ≠ N + 2 by omega)).trans H0.out.1, ML.out⟩
        have hb' : Below N w (wr.setCell ⟨N + 2, t, none⟩ (.int .i64 (d : Int))) := BB.out.setCell (show N ≤ N + 2 by omega) _
        clear hc3 hf3
        generalize wr.setCell ⟨N + 2, t, none⟩ (.int .i64 (d : Int)) = wv at h3' h2' h0' hb' ⊢
        have hc4 := er_cellAt h3' t (.int .i64 (d : Int)) (by rw [dcells_get _ _ (by omega), if_pos (by omega), HDD.out])
        have H3' := Bx.mk h3'; have H2' := Bx.mk h2'; have H0' := Bx.mk h0'; have BB' := Bx.mk hb'
        clear h3' h2' h0' hb' hrt e
        go_wp2_with fail
        go_roundw
        case rel => exact ⟨t + 1, by omega, by go_num, by rw [HSN.out]; congr 1; omega, H3'.out, H2'.out, H0'.out, BB'.out⟩
        case measure => simp [intOf]; omega
    · obtain rfl : t = 64 := by omega
      have hs := dlack_le m 64
      have es : 960 - 15 * 64 + dlack m 64 = dlack m 64 := by omega
      rw [es]
      generalize hS : dlack m 64 = Sm at *
      obtain ⟨F0, hF0⟩ : ∃ f : Nat → Nat, f = fun j => if j < 64 then dg m j else 0 := ⟨_, rfl⟩
      rw [← hF0] at H3
      have HS := Bx.mk hS; have E0 := Bx.mk hF0
      have H0 := H3; have G0 := H2; have B0 := BB
      clear hS hrt hdl hlt ht hle H3 H2 BB es hF0
      generalize wr = W0 at *
      obtain ⟨F1, hff1⟩ : ∃ f : Nat → Nat, f = fun j => if j = 64 then Sm / 16 ^ 2 % 16 else F0 j := ⟨_, rfl⟩
      have hc3 := er_cellAt H0.out 64 (.int .i64 (F0 64 : Int)) (by rw [dcells_get _ _ (by decide)])
      have hf3 := er_frozen H0.out 64
      go_upto_region 9 with (fail)
      rw [show (Sm : Int) / 256 = ((Sm / 16 ^ 2 % 16 : Nat) : Int) by have := hs; simp; omega]
      have h3' : (W0.setCell ⟨N + 2, 64, none⟩ (.int .i64 ((Sm / 16 ^ 2 % 16 : Nat) : Int))).heap[N + 2]? = some (.cells (dcells F1) 42 (0, 0)) := by
        have : (W0.setCell ⟨N + 2, 64, none⟩ (.int .i64 ((Sm / 16 ^ 2 % 16 : Nat) : Int))).heap[N + 2]? = some (.cells ((dcells F0).setIfInBounds 64 (.int .i64 ((Sm / 16 ^ 2 % 16 : Nat) : Int))) 42 (0, 0)) := by
          simp [World.setCell, Array.getElem?_modify, H0.out]
        rw [this, dcells_set, hff1]
      have h2' : (W0.setCell ⟨N + 2, 64, none⟩ (.int .i64 ((Sm / 16 ^ 2 % 16 : Nat) : Int))).heap[N + 1]? = some (.cells (dcells fun _ => 0) 42 (0, 0)) := (Below.heap_setCell _ _ _ _ (show N + 1 ≠ N + 2 by omega)).trans G0.out
      have hb' : Below N w (W0.setCell ⟨N + 2, 64, none⟩ (.int .i64 ((Sm / 16 ^ 2 % 16 : Nat) : Int))) := B0.out.setCell (show N ≤ N + 2 by omega) _
      clear hc3 hf3
      generalize W0.setCell ⟨N + 2, 64, none⟩ (.int .i64 ((Sm / 16 ^ 2 % 16 : Nat) : Int)) = W1 at h3' h2' hb' ⊢
      have H1 := Bx.mk h3'; have G1 := Bx.mk h2'; have B1 := Bx.mk hb'; have E1 := Bx.mk hff1
      clear h3' h2' hb' hff1 H0 G0 B0
      obtain ⟨F2, hff2⟩ : ∃ f : Nat → Nat, f = fun j => if j = 65 then Sm / 16 ^ 1 % 16 else F1 j := ⟨_, rfl⟩
      have hc3 := er_cellAt H1.out 65 (.int .i64 (F1 65 : Int)) (by rw [dcells_get _ _ (by decide)])
      have hf3 := er_frozen H1.out 65
      go_upto_region 10 with (fail)
      rw [show bits .and .i64 ((Sm : Int) / 16) 15 = ((Sm / 16 ^ 1 % 16 : Nat) : Int) by rw [show (Sm : Int) / 16 = ((Sm / 16 : Nat) : Int) by omega, and15 _ (by omega)]]
      have h3' : (W1.setCell ⟨N + 2, 65, none⟩ (.int .i64 ((Sm / 16 ^ 1 % 16 : Nat) : Int))).heap[N + 2]? = some (.cells (dcells F2) 42 (0, 0)) := by
        have : (W1.setCell ⟨N + 2, 65, none⟩ (.int .i64 ((Sm / 16 ^ 1 % 16 : Nat) : Int))).heap[N + 2]? = some (.cells ((dcells F1).setIfInBounds 65 (.int .i64 ((Sm / 16 ^ 1 % 16 : Nat) : Int))) 42 (0, 0)) := by
          simp [World.setCell, Array.getElem?_modify, H1.out]
        rw [this, dcells_set, hff2]
      have h2' : (W1.setCell ⟨N + 2, 65, none⟩ (.int .i64 ((Sm / 16 ^ 1 % 16 : Nat) : Int))).heap[N + 1]? = some (.cells (dcells fun _ => 0) 42 (0, 0)) := (Below.heap_setCell _ _ _ _ (show N + 1 ≠ N + 2 by omega)).trans G1.out
      have hb' : Below N w (W1.setCell ⟨N + 2, 65, none⟩ (.int .i64 ((Sm / 16 ^ 1 % 16 : Nat) : Int))) := B1.out.setCell (show N ≤ N + 2 by omega) _
      clear hc3 hf3
      generalize W1.setCell ⟨N + 2, 65, none⟩ (.int .i64 ((Sm / 16 ^ 1 % 16 : Nat) : Int)) = W2 at h3' h2' hb' ⊢
      have H2 := Bx.mk h3'; have G2 := Bx.mk h2'; have B2 := Bx.mk hb'; have E2 := Bx.mk hff2
      clear h3' h2' hb' hff2 H1 G1 B1
      obtain ⟨F3, hff3⟩ : ∃ f : Nat → Nat, f = fun j => if j = 66 then Sm / 16 ^ 0 % 16 else F2 j := ⟨_, rfl⟩
      have hc3 := er_cellAt H2.out 66 (.int .i64 (F2 66 : Int)) (by rw [dcells_get _ _ (by decide)])
      have hf3 := er_frozen H2.out 66
      go_upto_region 11 with (fail)
      rw [show bits .and .i64 ((Sm : Int)) 15 = ((Sm / 16 ^ 0 % 16 : Nat) : Int) by rw [and15 _ (by omega)]; simp]
      have h3' : (W2.setCell ⟨N + 2, 66, none⟩ (.int .i64 ((Sm / 16 ^ 0 % 16 : Nat) : Int))).heap[N + 2]? = some (.cells (dcells F3) 42 (0, 0)) := by
        have : (W2.setCell ⟨N + 2, 66, none⟩ (.int .i64 ((Sm / 16 ^ 0 % 16 : Nat) : Int))).heap[N + 2]? = some (.cells ((dcells F2).setIfInBounds 66 (.int .i64 ((Sm / 16 ^ 0 % 16 : Nat) : Int))) 42 (0, 0)) := by
          simp [World.setCell, Array.getElem?_modify, H2.out]
        rw [this, dcells_set, hff3]
      have h2' : (W2.setCell ⟨N + 2, 66, none⟩ (.int .i64 ((Sm / 16 ^ 0 % 16 : Nat) : Int))).heap[N + 1]? = some (.cells (dcells fun _ => 0) 42 (0, 0)) := (Below.heap_setCell _ _ _ _ (show N + 1 ≠ N + 2 by omega)).trans G2.out
      have hb' : Below N w (W2.setCell ⟨N + 2, 66, none⟩ (.int .i64 ((Sm / 16 ^ 0 % 16 : Nat) : Int))) := B2.out.setCell (show N ≤ N + 2 by omega) _
      clear hc3 hf3
      generalize W2.setCell ⟨N + 2, 66, none⟩ (.int .i64 ((Sm / 16 ^ 0 % 16 : Nat) : Int)) = W3 at h3' h2' hb' ⊢
      have H3 := Bx.mk h3'; have G3 := Bx.mk h2'; have B3 := Bx.mk hb'; have E3 := Bx.mk hff3
      clear h3' h2' hb' hff3 H2 G2 B2
      go_wp2_with (first
        | (guard_target =~ wpList _ _ _ (⟨some 38, _, _, _, _, _⟩ :: _) _ _; refine wpList_load_row rfl 42 (.tmp 3) rfl (N + 2) rfl _ _ _ _ H3.out Tryd.underlying42 rfl (sizeA _) ?_)
        | (guard_target =~ wpList _ _ _ (⟨none, _, _, _, _, _⟩ :: _) _ _; refine wpList_store_row rfl 42 (.tmp 2) (.tmp 38) rfl (N + 1) (dcells F3) rfl rfl _ _ G3.out (sizeA _) (by rw [dcells_size, dcells_size]) (dcells_one _) ?_))
      exact bodyPost_ret (results_cell_row rfl _ _ (N + 1) _ (dcells F3) _ _ rfl (setRow_heap _ _ _ _ _ _ G3.out) Tryd.underlying42 rfl (sizeA _)) rfl ⟨by
        rw [dcells_congr (g := dall m) fun j hj => by
          rw [E3.out, E2.out, E1.out, E0.out, ← HS.out]
          unfold dall
          by_cases h : j < 64
          · simp only [if_pos h]
            rw [if_neg (by omega), if_neg (by omega), if_neg (by omega)]
          · simp only [if_neg h]
            rcases (show j = 64 ∨ j = 65 ∨ j = 66 by omega) with rfl | rfl | rfl <;> rfl], HN.out ▸ below_setRow B3.out (Nat.le_succ _) _⟩
end Go.Proofs.YtohifpomdanmkaaDoor
