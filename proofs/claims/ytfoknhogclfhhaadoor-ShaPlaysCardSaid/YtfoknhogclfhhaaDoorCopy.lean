/- sha.New, (*sha.Digest).Copy. -/
import Derived.Test.YtfoknhogclfhhaaDoorWrite
namespace Go.Proofs.YtfoknhogclfhhaaDoor
set_option maxRecDepth 100000
open Go.RowKit
/-- a digest of the call's own -/
structure NewDig (w : World) (w' : World) (v : Value) (m : List UInt8) (p H : Nat) (rv : Value) : Prop where
  val : v = .pointer (some ⟨p, 0, none⟩)
  dig : Dig w.heap.size w' p H rv m
  below : Below w.heap.size w w'
set_option maxHeartbeats 400000 in
theorem new_any (w : World) : Calls Tryd.prog 9 #[] w fun e w' => ∃ v p H rv, e = .returned v ∧ NewDig w w' v [] p H rv := by
  go_enter Tryd.func9, Tryd.ntmps9
  go_wp2
  go_ret
  refine ⟨_, w.heap.size + 1, w.heap.size, .slice none 0 0, rfl, rfl, ⟨heap_alloc2_new _ _ _, ?_, World.ownsRow_nil _ _ _ _, by omega, by omega⟩, ((Below.refl _ _).alloc (Nat.le_refl _) _).alloc (by simp) _⟩
  exact heap_alloc2_old _ _ _
set_option maxHeartbeats 800000 in
set_option maxRecDepth 100000 in
theorem copy_any (base : Nat) (w : World) (p H : Nat) (rv : Value) (m : List UInt8) (hD : Dig base w p H rv m) :
    Calls Tryd.prog 20 #[.pointer (some ⟨p, 0, none⟩)] w fun e w' => ∃ v p' H' rv', e = .returned v ∧ NewDig w w' v m p' H' rv' := by
  obtain ⟨ra, rc, hrv, hrc, hrc2⟩ := hD.shape
  have c0 := cell_at hD.hp 0 _ rfl
  have c1 := cell_at hD.hp 1 _ rfl
  have c2 := cell_at hD.hp 2 _ rfl
  rw [hrv] at c1
  have hml := hD.hr.1
  rw [bcells_length] at hml
  have HRV := Bx.mk hrv; have HD := Bx.mk hD; have HML := Bx.mk hml; clear hrv hD hml
  go_enter Tryd.func20, Tryd.ntmps20
  have hsi : (Tryd.prog.info? 61).map (·.size) = some (vals (fold R0 m (m.length / 64)).list).size := by rw [size8, vals_size]; rfl
  have hso : (vals zeros8).size = (vals (fold R0 m (m.length / 64)).list).size := by rw [vals_size, vals_size]; rfl
  have HSI := Bx.mk hsi; have HSO := Bx.mk hso; clear hsi hso
  go_upto_region 4 with (first
    | (refine wpList_load_row rfl 61 (.tmp 17) rfl H rfl _ _ _ _ HD.out.hH under8 rfl HSI.out ?_)
    | (refine wpList_store_row rfl 61 (.tmp 3) (.tmp 18) rfl w.heap.size (vals (fold R0 m (m.length / 64)).list) rfl rfl _ (vals zeros8) (heap_alloc_new _ _) HSI.out HSO.out (vals_one _) ?_; rw [setRow_alloc_new _ _ _ _ _ rfl]))
  generalize hW : w.alloc (.cells (vals (fold R0 m (m.length / 64)).list) 61) = W
  have hps : p < w.heap.size := (Array.getElem?_eq_some_iff.1 HD.out.hp).1
  have k1 : Keep (fun _ => False) w W := by rw [← hW]; exact Keep.alloc _ _ _
  have hWH : W.heap[w.heap.size]? = some (.cells (vals (fold R0 m (m.length / 64)).list) 61 (0, 0)) := by rw [← hW]; exact heap_alloc_new _ _
  have hWs : W.heap.size = w.heap.size + 1 := by rw [← hW]; simp
  have d1 := HD.out.kept k1 (fun h => h) (fun h => h) (fun _ _ h => h)
  have b1 := cell_at d1.hp 1 _ rfl
  have b2 := cell_at d1.hp 2 _ rfl
  rw [HRV.out] at b1
  have hown := d1.hr
  rw [HRV.out] at hown
  obtain ⟨hnil, hnews⟩ := own_src hown
  obtain ⟨i0, hi, hz0, hz1, hz2⟩ := info_parts info8
  have hroom : 0 + m.length % 64 ≤ maxLen := by unfold maxLen; omega
  have hby : (0 + m.length % 64) * 1 ≤ 140737488355328 := by omega
  have hn0 := World.ownsRow_nil W.drew W.heap.size 5 1
  have RI := Bx.mk (And.intro hi (And.intro hz0 (And.intro hz1 hz2))); have R1 := Bx.mk hroom; have R2 := Bx.mk hby; have R0' := Bx.mk hn0; have RN := Bx.mk hnil; have RS := Bx.mk hnews
  have K1 := Bx.mk k1; have WH := Bx.mk hWH; have WS := Bx.mk hWs
  clear hi hz0 hz1 hz2 hroom hby hn0 hnil hnews hown d1 k1 hWH hWs hW c0 c1 c2
  have hf : ∀ w1 : World, W.grownBy w1 none → w1.cell? ⟨p, 2, none⟩ = some (.int .u64 (m.length : Int)) := fun w1 hg => (World.cell?_of_block (w := W) (a := ⟨p, 2, none⟩) (hg.block p (by rw [WS.out]; omega) (by simp))).trans b2
  have RF := Bx.mk hf; clear hf
  go_region_law (refine step_append_src rfl (.const (.slice none 0 0)) (.tmp 22) 30 rfl W.heap.size 5 i0 (.int .u8 0) 1 1 underB RI.out.1 RI.out.2.1 RI.out.2.2.1 RI.out.2.2.2 rfl (by decide) (.slice none 0 0) 0 [] rfl R0'.out ra (m.length % 64) rc (bcells (m.drop (64 * (m.length / 64)))) rfl RN.out (by simp [bcells]; omega) RS.out (bcells_one _) R1.out R2.out (Nat.le_refl _) ?_; intro v' w1 hown' hgrow hfr; replace hgrow := grownBy_undrew hgrow; have G1 := Bx.mk hgrow; have O1 := Bx.mk hown'; obtain ⟨va, vc, hv', hn1, hn2, hn3⟩ := own_shape hown'; clear hgrow hfr hown'; have q0 := RF.out w1 G1.out; subst hv')
  all_goals
    go_wp2_with fail
    go_ret
    have g1 : Keep (fun _ => False) W w1 := (Keep.of_grown G1.out).mono fun k _ h => by cases h
    have g0 : Below w.heap.size w w1 := (K1.out.trans g1 (fun _ _ h => h)).below (Nat.le_refl _) (fun _ h => h.elim)
    have hs : w.heap.size + 1 ≤ w1.heap.size := by have := g1.size; rw [WS.out] at this; exact this
    refine ⟨_, w1.heap.size, w.heap.size, _, rfl, rfl, ⟨heap_alloc_new _ _, ?_, ?_, by omega, Nat.le_refl _⟩, g0.alloc (by omega) _⟩
    · rw [Below.heap_alloc _ _ _ (by omega)]
      exact (g1.block _ (by rw [WS.out]; omega) (fun h => h)).trans WH.out
    · have := O1.out
      rw [Nat.zero_add] at this
      exact ownsRow_mono (this.alloc _) (by rw [WS.out]; omega)
end Go.Proofs.YtfoknhogclfhhaaDoor
