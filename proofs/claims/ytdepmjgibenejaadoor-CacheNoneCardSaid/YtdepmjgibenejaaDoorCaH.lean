/- cartularylaw13.CacheNone walked. -/
import Derived.Test.YtdepmjgibenejaaDoorCaG
namespace Go.Proofs.YtdepmjgibenejaaDoor
set_option maxRecDepth 100000
open Go.RowKit Go.Maps
theorem builtZ : Tryd.prog.built 54 [] = some #[.int .i64 0, .map none, .slice none 0 0, .slice none 0 0] := by kernel_rfl
theorem builtA (x y : Option Addr) : Tryd.prog.built 55 [(0, .pointer x), (1, .pointer y)] = some #[.pointer x, .pointer y] := by kernel_rfl
theorem underAc : Tryd.prog.underlying 55 = some (.array 2 49) := by kernel_rfl
set_option maxHeartbeats 4000000 in
theorem cnone13_any (w : World) (k : ByteArray) (x : Int) : Calls Tryd.prog 4 #[.string k, .int .i64 x] w fun e w' => e = .returned (.bool true) ∧ Below w.heap.size w w' := by
  go_enter Tryd.func4, Tryd.ntmps4
  go_wp2_with fail
  refine (alive13_any w).mono ?_
  rintro e W0 ⟨rfl, hb⟩
  have K0 := Bx.mk hb; clear hb
  go_upto_region 4 with (fail)
  have hb1 : Below W0.heap.size W0 (W0.alloc (.cells #[.int .i64 0, .map none, .slice none 0 0, .slice none 0 0] 54)) := er_al (Below.refl _ _) _
  have hz := heap_alloc_new W0 (.cells #[.int .i64 0, .map none, .slice none 0 0, .slice none 0 0] 54)
  obtain ⟨z, hzz⟩ : ∃ z, z = W0.heap.size := ⟨_, rfl⟩
  go_wp2_with (first
    | (guard_target =~ wpList _ _ _ (⟨some 15, _, _, _, _, _⟩ :: _) _ _; refine wpList_build_c (by simp [Region.wanted]) 54 #[] rfl #[.int .i64 0, .map none, .slice none 0 0, .slice none 0 0] (by simp only [List.map_toArray, List.map_nil]; exact builtZ) ?_)
    | (guard_target =~ wpList _ _ _ (⟨some 17, _, _, _, _, _⟩ :: _) _ _; rw [← hzz] at hz ⊢; generalize W0.alloc (.cells #[.int .i64 0, .map none, .slice none 0 0, .slice none 0 0] 54) = W1 at hb1 hz ⊢; refine wpList_build_c (by simp [Region.wanted]) 55 #[(0, .tmp 14), (1, .tmp 16)] rfl #[.pointer none, .pointer (some ⟨z, 0, none⟩)] (by simp only [List.map_toArray, List.map_cons, List.map_nil]; exact builtA _ _) ?_; have K1 := Bx.mk (K0.out.trans (hb1.mono K0.out.size)); have HZ := Bx.mk hz; clear hb1 hz hzz)
    | (guard_target =~ wpList _ _ _ (⟨none, _, _, _, _, _⟩ :: _) _ _; refine wpList_store_row rfl 55 (.tmp 6) (.tmp 17) rfl W1.heap.size #[.pointer none, .pointer (some ⟨z, 0, none⟩)] rfl rfl _ #[.pointer none, .pointer none] (heap_alloc_new _ _) (by kernel_rfl) rfl (by simp [Value.oneCell']) ?_; rw [setRow_alloc_new _ _ _ _ rfl]))
  have hb2 : Below W1.heap.size W1 (W1.alloc (.cells #[.pointer none, .pointer (some ⟨z, 0, none⟩)] 55)) := er_al (Below.refl _ _) _
  have hg2 := heap_alloc_new W1 (.cells #[.pointer none, .pointer (some ⟨z, 0, none⟩)] 55)
  obtain ⟨g, hgg⟩ : ∃ g, g = W1.heap.size := ⟨_, rfl⟩
  rw [← hgg] at hg2 ⊢
  generalize W1.alloc (.cells #[.pointer none, .pointer (some ⟨z, 0, none⟩)] 55) = W at hb2 hg2 ⊢
  have K2 := Bx.mk (K1.out.trans (hb2.mono K1.out.size)); have G2 := Bx.mk hg2; have Z2 := Bx.mk ((hb2.block _ (Array.getElem?_eq_some_iff.1 HZ.out).1).trans HZ.out)
  clear hb2 hg2 hgg HZ K1 K0
  go_wp2_with fail
  go_loopw [7] (fun iv wr => ∃ t : Nat, t ≤ 2 ∧ iv = .int .i64 (t : Int) ∧ Below W.heap.size W wr) (fun iv _ => 2 - (intOf iv).toNat)
  case atStart => exact ⟨0, Nat.zero_le _, rfl, Below.refl _ _⟩
  case round =>
    obtain ⟨t, ht, rfl, hb⟩ := hrel
    have BW := Bx.mk hb
    clear hb
    by_cases hlt : t < 2
    · obtain ⟨v, hc, hd⟩ : ∃ v, (wr.cell? ⟨g, t, none⟩ = some v) ∧ DeadXS wr v := by
        have hg := (BW.out.block _ (Array.getElem?_eq_some_iff.1 G2.out).1).trans G2.out
        have hz := (BW.out.block _ (Array.getElem?_eq_some_iff.1 Z2.out).1).trans Z2.out
        rcases (show t = 0 ∨ t = 1 by omega) with rfl | rfl
        · exact ⟨_, er_cellAt hg 0 _ rfl, .inl rfl⟩
        · exact ⟨_, er_cellAt hg 1 _ rfl, .inr ⟨z, rfl, hz⟩⟩
      have DV := Bx.mk hd
      have f1 : (t : Int) < 2 := by omega
      have TL := Bx.mk hlt
      clear hd hlt ht
      go_wp2_with fail
      refine (put_deadS wr v DV.out k x).mono ?_
      rintro e wr1 ⟨rfl, rfl⟩
      go_wp2_with fail
      refine (get_deadS wr1 v DV.out k).mono ?_
      rintro e wr2 ⟨rfl, rfl⟩
      go_wp2_with fail
      refine (drop_deadS wr2 v DV.out k).mono ?_
      rintro e wr3 ⟨rfl, rfl⟩
      go_wp2_with fail
      refine (len_deadS wr3 v DV.out).mono ?_
      rintro e wr4 ⟨rfl, rfl⟩
      go_wp2_with fail
      refine (keys_deadS wr4 v DV.out).mono ?_
      rintro e wr5 ⟨rfl, rfl⟩
      go_wp2_with fail
      clear hc
      go_roundw
      case rel => exact ⟨t + 1, TL.out, by have := TL.out; go_num, BW.out⟩
      case measure => have := TL.out; simp [intOf]; omega
    · obtain rfl : t = 2 := by omega
      clear ht hlt
      go_wp2_with fail
      go_ret
      exact ⟨rfl, K2.out.trans (BW.out.mono K2.out.size)⟩
end Go.Proofs.YtdepmjgibenejaaDoor
