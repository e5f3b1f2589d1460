/- cartularylaw09.appended. -/
import Derived.Test.YtgbafjmklefoiaaDoorCpF
import Derived.Test.YtgbafjmklefoiaaDoorCpP
import Derived.Test.YtgbafjmklefoiaaDoorK2
namespace Go.Proofs.YtgbafjmklefoiaaDoor
set_option maxRecDepth 100000
open Go.RowKit
theorem rowC_len {f : Nat → List UInt8} {b e : Nat} (he : e ≤ 2 ^ 63) : (rowC f b e).length ≤ 128 := by unfold rowC; rw [List.length_map]; exact cover_le he
set_option maxHeartbeats 1600000 in
theorem appended_any (w : World) (b : Nat) (ha : Option Addr) (n hc : Nat) (hs : List (List UInt8)) (hH : Hss w (.slice ha n hc) hs) (f : Nat → List UInt8) (hf : ∀ t (h : t < hs.length), hs[t] = f (b + t)) (hh : TabS w) (hb : b + hs.length ≤ 2 ^ 63) (hsz : hs.length ≤ 140737488351232) :
    Calls Tryd.prog 16 #[.int .u64 (b : Int), .slice ha n hc] w fun e w' => ∃ r, e = .returned (.pointer (some ⟨r, 0, none⟩)) ∧ (∃ s, RaP w.heap.size w' r b (b + n) (rowC f b (b + n)) s) ∧ Below w.heap.size w w' := by
  obtain ⟨m, hm⟩ : ∃ m, m = hs.length := ⟨_, rfl⟩
  obtain rfl : m = n := by obtain ⟨_, _, e, _, _⟩ := hH.len; cases e; omega
  have HM := Bx.mk hm
  have HH := Bx.mk hH; have HF := Bx.mk hf; have HS := Bx.mk hh; have BL := Bx.mk (show b + m ≤ 2 ^ 63 by omega); have ML := Bx.mk (show m ≤ 140737488351232 by omega)
  clear hH hf hh hb hm hsz
  go_enter Tryd.func16, Tryd.ntmps16
  go_wp2_with fail
  refine (rnew_any w b).mono ?_
  rintro e W ⟨r, rfl, hR, hb⟩
  have R0 := Bx.mk (show RaP w.heap.size W r b (b + 0) (rowC f b (b + 0)) (.slice none 0 0) by rw [Nat.add_zero, rowC_nil]; exact hR)
  have B0 := Bx.mk hb
  clear hR hb
  go_wp2_with fail
  go_loopw [6] (fun iv wr => ∃ t : Nat, t ≤ m ∧ iv = .int .i64 (t : Int) ∧ ∃ s', RaP w.heap.size wr r b (b + t) (rowC f b (b + t)) s' ∧ Below w.heap.size w wr) (fun iv _ => m - (intOf iv).toNat)
  case atStart => exact ⟨0, Nat.zero_le _, rfl, _, R0.out, B0.out⟩
  case round =>
    obtain ⟨t, ht, rfl, s1, hR, hb⟩ := hrel
    have RW := Bx.mk hR; have BW := Bx.mk hb
    clear hR hb R0 B0
    by_cases hlt : t < m
    · have TL := Bx.mk hlt
      have TP := Bx.mk (show t < hs.length by rw [← HM.out]; exact hlt)
      obtain ⟨-, -, -, Bq, oq, e, hbq, hrq, hyl⟩ := HH.out.at t TP.out
      subst e
      obtain ⟨y, hy⟩ : ∃ y, y = hs[t]'(TP.out) := ⟨_, rfl⟩
      rw [← hy] at hrq hyl
      have YL := Bx.mk hyl; have RY := Bx.mk (rangeAt_below hrq hbq BW.out)
      have YF : Bx (y = f (b + t)) := ⟨by rw [hy]; exact HF.out t TP.out⟩
      have CA := Bx.mk (rapp_any w.heap.size wr r b (b + t) _ s1 RW.out y hyl (fun u hu => HS.out.below (BW.out.trans hu)) BW.out.size (Nat.le_trans (rowC_len (by have := BL.out; omega)) (by decide)) (by have := BL.out; omega))
      have f1 : (t : Int) < (m : Int) := by omega
      have f2 : ¬ (m : Int) ≤ (t : Int) := by omega
      clear hy hrq hbq hyl hlt ht
      go_wp2_with (guard_target =~ wpList _ _ _ (⟨some 21, _, _, _, _, _⟩ :: _) _ _; refine wpList_load_mid rfl 28 (.tmp 20) rfl Bq (oq + t * 32) rfl (bcells y) _ RY.out underH rfl (hszB' YL.out) ?_; change wpList _ _ _ _ (Act.put _ _ (.agg (ocells y))) _)
      refine CA.out.mono ?_
      rintro e u ⟨rfl, s2, hR2, hk2, -⟩
      have R2 := Bx.mk (show RaP w.heap.size u r b (b + (t + 1)) (rowC f b (b + (t + 1))) s2 by
        have h1 := push_leaf f (b := b) (E := b + t) (by omega) (by have := BL.out; have := TL.out; omega)
        rw [YF.out, h1] at hR2
        exact hR2)
      have B2 := Bx.mk (BW.out.trans (hk2.below (B := w.heap.size) BW.out.size (fun k hk => RW.out.ge k hk)))
      clear hR2 hk2 CA
      have tl := TL.out
      have ml := ML.out
      go_wp2_with fail
      go_roundw
      case rel => exact ⟨t + 1, TL.out, by go_num, s2, R2.out, B2.out⟩
      case measure => have := TL.out; simp [intOf]; omega
    · obtain rfl : t = m := by omega
      have f1 : ¬ (t : Int) < (t : Int) := by omega
      clear ht hlt
      go_wp2_with fail
      go_ret
      exact ⟨r, rfl, ⟨s1, RW.out⟩, BW.out⟩
end Go.Proofs.YtgbafjmklefoiaaDoor
