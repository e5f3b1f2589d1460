/- The document's cache of chapter 13: Keys. -/
import Derived.Test.YtdepmjgibenejaaGreatDoorRcC
namespace Go.Proofs.YtdepmjgibenejaaGreatDoor
set_option maxRecDepth 100000
open Go.RowKit
set_option maxHeartbeats 1600000 in
theorem rkeys13_any (base : Nat) (w : World) (rc most : Nat) (es : List (Int × Int)) (L : Value) (h : RfM base w rc most es L) (hlen : es.length ≤ 1024) :
    Calls Tryz.prog 17 #[.pointer (some ⟨rc, 0, none⟩)] w fun e w' => ∃ v, e = .returned v ∧ w'.ownsRow w.heap.size 3 1 v es.length (keycI es) ∧ Below w.heap.size w w' := by
  obtain ⟨a, c, hs, -, -, -⟩ := own_shapeK h.row
  obtain ⟨n, hn⟩ : ∃ n, n = es.length := ⟨_, rfl⟩
  rw [← hn] at hs
  subst hs
  have HM := Bx.mk h; have HN := Bx.mk hn; have LB := Bx.mk (show n ≤ 1024 by omega)
  obtain ⟨i0, hi, hz0, hz1, hz2⟩ := info_parts infoKI
  have RI := Bx.mk (And.intro hi (And.intro hz0 (And.intro hz1 hz2)))
  have ON := Bx.mk (World.ownsRow_nil w w.heap.size 3 1)
  clear h hn hlen hi hz0 hz1 hz2
  go_enter Tryz.func17, Tryz.ntmps17
  go_wp2_with fail
  go_loopw [3, 4] (fun lv iv wr => ∃ t : Nat, t ≤ n ∧ iv = .int .i64 (t : Int) ∧ wr.ownsRow w.heap.size 3 1 lv t (keycI (es.take t)) ∧ Below w.heap.size w wr) (fun _ iv _ => n - (intOf iv).toNat)
  case atStart => exact ⟨0, Nat.zero_le _, rfl, ON.out, Below.refl _ _⟩
  case round =>
    obtain ⟨t, ht, rfl, ho, hb⟩ := hrel
    obtain ⟨a3, c3, rfl⟩ := own_shapeC ho
    have HO := Bx.mk ho; have BW := Bx.mk hb
    have mw := HM.out.below hb
    have c1 := er_cellAt mw.hb 1 _ rfl
    clear ho hb
    by_cases hlt : t < n
    · have TL := Bx.mk hlt
      have TE := Bx.mk (show t < es.length by rw [← HN.out]; exact hlt)
      obtain ⟨g, rfl⟩ : ∃ g, a = some ⟨g, 0, none⟩ := by
        have hr := HM.out.row
        rcases id hr.2 with ⟨_, h0⟩ | ⟨g, c', cur, e1, _⟩
        · have := TE.out; omega
        · injection e1 with e2 e3 e4; exact ⟨g, e2⟩
      have hrow := mw.row
      rw [← HN.out] at hrow
      obtain ⟨cur, hG⟩ := rowG_of hrow
      have p0 := hG.cell (itc_get TE.out (o := 0) (by decide))
      obtain ⟨kx, hkx⟩ : ∃ kx, kx = (es[t]'(TE.out)).1 := ⟨_, rfl⟩
      have hk0 : wr.cell? ⟨g, t * 2, none⟩ = some (.int .i64 kx) := by rw [hkx]; rw [Nat.add_zero] at p0; exact p0
      have f1 : (t : Int) < (n : Int) := by omega
      have KX : Bx (keycI (es.take (t + 1)) = keycI (es.take t) ++ [.int .i64 kx]) := ⟨by unfold keycI; rw [List.take_succ_eq_append_getElem TE.out, List.map_append, hkx]; rfl⟩
      clear mw hrow hG p0 hkx ht hlt
      go_wp2_with (at_builtin; refine wpList_append_own_at _ rfl _ _ 45 rfl w.heap.size 3 i0 (.int .i64 0) 1 8 Tryz.underlying45 RI.out.1 RI.out.2.1 RI.out.2.2.1 RI.out.2.2.2 rfl (by decide) (.slice a3 t c3) t (keycI (es.take t)) rfl (HO.out.alloc _) ⟨wr.heap.size, 0, none⟩ 1 1 [.int .i64 kx] rfl rfl (cell_one_new _ _ _) (fun u hu => by rw [List.mem_singleton.1 hu]; rfl) (by have := TL.out; have := LB.out; unfold maxLen; omega) (by have := TL.out; have := LB.out; omega) (by have := BW.out.size; simp; omega) ?_; intro lv2 w2 hown hgrow _ hloc; obtain ⟨a4, c4, rfl⟩ := own_shapeC hown; have kk := (Keep.of_below (er_al (Below.refl wr.heap.size wr) (.cells #[.int .i64 kx] 3)) (fun j => (Value.slice a3 t c3).ownBlock = some j)).trans (Keep.of_grown hgrow) (fun _ _ h => h); have bw2 := BW.out.trans (kk.below (B := w.heap.size) BW.out.size (fun j hj => ownsRow_fresh HO.out j hj)); have BW2 := Bx.mk bw2; have HO2 := Bx.mk hown; clear hown hgrow hloc kk bw2)
      go_roundw
      case rel => exact ⟨t + 1, TL.out, (by rw [wrap_succB t (by have := TL.out; have := LB.out; omega)]), by rw [KX.out]; exact HO2.out, BW2.out⟩
      case measure => rw [wrap_succB t (by have := TL.out; have := LB.out; omega)]; have := TL.out; simp [intOf]; omega
    · obtain rfl : t = n := by omega
      have f1 : ¬ (t : Int) < (t : Int) := by omega
      clear ht hlt
      go_wp2_with fail
      go_ret
      exact ⟨_, rfl, by have := HO.out; rw [HN.out, List.take_length, ← HN.out] at this; rw [← HN.out]; exact this, BW.out⟩
end Go.Proofs.YtdepmjgibenejaaGreatDoor
