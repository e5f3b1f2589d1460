/- cartularylaw04.ShaNone walked. -/
import Derived.Test.YtfoknhogclfhhaaDoorDead
import Derived.Deep.RegionHeld3
namespace Go.Proofs.YtfoknhogclfhhaaDoor
set_option maxRecDepth 100000
open Go.RowKit
theorem ints_one (w : World) (k n : Nat) (hn : n = w.heap.size) : Ints (w.alloc (.cells #[.int .i64 (k : Int)] 3)) (.slice (some ⟨n, 0, none⟩) 1 1) [k] := by
  subst hn
  exact ⟨_, 1, rfl, Nat.le_refl _, by simp [maxLen], fun _ => ⟨w.heap.size, 0, rfl, by simp, fun i hi => by
    obtain rfl : i = 0 := by simpa using hi
    rw [World.cell?_alloc_at _ _ _ _ rfl]; rfl⟩⟩
theorem hv_ne (w : World) (a b : List UInt8) (ha : a.length = 32) (hb : b.length = 32) : (binOp .neq 38 (hv a) (hv b)).run Tryd.prog w = .ok (.bool (a != b)) w := by
  rw [hv_agg, hv_agg]
  show (binOp .neq 38 (.agg (a.map Extern.Stop.cell).toArray) (.agg (b.map Extern.Stop.cell).toArray)).run Tryd.prog w = _
  rw [run_neq_struct, run_equalIn_bytes w 9998 38 5 32 underH (by kernel_rfl) (fun _ => by kernel_rfl) a b ha hb]
  rfl
set_option maxHeartbeats 1600000 in
set_option maxRecDepth 100000 in
theorem none_any (w : World) (v : Value) (l : List UInt8) (hS : Src w v l) (hl : l.length < 9223372036854775808) (hT : Tab w) (hgs : 0 < w.heap.size) :
    Calls Tryd.prog 7 #[v] w fun e w' => e = .returned (.bool true) ∧ Below w.heap.size w w' := by
  have ha := alive_any w hT hgs
  have HA := Bx.mk ha; have HT := Bx.mk hT; have HS := Bx.mk hS
  obtain ⟨a0, c0, rfl, hc1, hc2, hc3⟩ := hS
  clear hc3
  clear ha hT
  go_enter Tryd.func7, Tryd.ntmps7
  go_wp2_with fail
  refine HA.out.mono ?_
  rintro e w1 ⟨rfl, hb1⟩
  have HB1 := Bx.mk hb1; clear hb1
  go_wp2_with fail
  have hbe := beyond_any (w1.alloc (.cells #[.int .i64 (l.length : Int)] 3)) (.slice (some ⟨w1.heap.size, 0, none⟩) 1 1) [l.length] (ints_one _ _ _ rfl) (by simpa using hl)
  refine hbe.mono ?_
  rintro e w2 ⟨rfl, rfl⟩
  have hb2 := HB1.out.alloc HB1.out.size (.cells #[.int .i64 (l.length : Int)] 3)
  generalize w1.alloc (.cells #[.int .i64 (l.length : Int)] 3) = w2 at hb2 ⊢
  have HB2 := Bx.mk hb2; clear hb2 hbe HB1
  by_cases hgt : 1048576 < l.length
  · have e1 : decide (1048576 < [l.length].sum) = true := by simp [hgt]
    rw [e1]; clear e1
    go_wp2_with fail
    have ha := alive_any w2 (HT.out.kept (Keep.of_below HB2.out (fun _ => False)) hgs (fun h => h)) (Nat.lt_of_lt_of_le hgs HB2.out.size)
    refine ha.mono ?_
    rintro e w3 ⟨rfl, hb3⟩
    go_wp2_with fail
    go_ret
    exact ⟨rfl, HB2.out.trans (hb3.mono HB2.out.size)⟩
  · have e1 : decide (1048576 < [l.length].sum) = false := decide_eq_false (by simp; omega)
    rw [e1]; clear e1
    go_upto_block 0 with (fail)
    have k4 : Below w2.heap.size w2 ((w2.alloc (.cells #[.pointer none, .slice none 0 0, .int .u64 0] 53)).alloc (.cells #[.pointer none, .pointer (some ⟨w2.heap.size, 0, none⟩)] 54)) :=
      ((Below.refl _ _).alloc (Nat.le_refl _) _).alloc (by simp) _
    have p4 : ((w2.alloc (.cells #[.pointer none, .slice none 0 0, .int .u64 0] 53)).alloc (.cells #[.pointer none, .pointer (some ⟨w2.heap.size, 0, none⟩)] 54)).heap[w2.heap.size]? = some (.cells #[.pointer none, .slice none 0 0, .int .u64 0] 53 (0, 0)) := by
      rw [Below.heap_alloc _ _ _ (by simp)]; exact heap_alloc_new _ _
    have l4 : ((w2.alloc (.cells #[.pointer none, .slice none 0 0, .int .u64 0] 53)).alloc (.cells #[.pointer none, .pointer (some ⟨w2.heap.size, 0, none⟩)] 54)).heap[w2.heap.size + 1]? = some (.cells #[.pointer none, .pointer (some ⟨w2.heap.size, 0, none⟩)] 54 (0, 0)) := by
      have := heap_alloc_new (w2.alloc (.cells #[.pointer none, .slice none 0 0, .int .u64 0] 53)) (.cells #[.pointer none, .pointer (some ⟨w2.heap.size, 0, none⟩)] 54)
      simpa using this
    have kw4 := HB2.out.trans (k4.mono HB2.out.size)
    generalize ((w2.alloc (.cells #[.pointer none, .slice none 0 0, .int .u64 0] 53)).alloc (.cells #[.pointer none, .pointer (some ⟨w2.heap.size, 0, none⟩)] 54)) = W at k4 p4 l4 kw4 ⊢
    generalize w2.heap.size = z at k4 p4 l4 ⊢
    have K4 := Bx.mk k4; have P4 := Bx.mk p4; have L4 := Bx.mk l4; have KW := Bx.mk kw4
    clear k4 p4 l4 kw4 HB2
    have hS4 : Src W (.slice a0 l.length c0) l := HS.out.kept (Keep.of_below KW.out (fun _ => False)) (fun _ _ h => h)
    have hT4 : Tab W := HT.out.kept (Keep.of_below KW.out (fun _ => False)) hgs (fun h => h)
    have HS4 := Bx.mk hS4; have HT4 := Bx.mk hT4; clear hS4 hT4
    go_wp2_with fail
    go_loopw [5] (fun i wr => ∃ t : Nat, t ≤ 2 ∧ i = .int .i64 (t : Int) ∧ Below W.heap.size W wr) (fun i _ => 2 - (intOf i).toNat)
    case atStart => exact ⟨0, by omega, rfl, Below.refl _ _⟩
    case round =>
      obtain ⟨t, ht, rfl, hb⟩ := hrel
      have HB := Bx.mk hb; clear hb
      have hzW : z < W.heap.size := (Array.getElem?_eq_some_iff.1 P4.out).1
      have hzW1 : z + 1 < W.heap.size := (Array.getElem?_eq_some_iff.1 L4.out).1
      by_cases hlt : t < 2
      · have hdead : ∃ v, DeadD W v ∧ (#[Value.pointer none, Value.pointer (some ⟨z, 0, none⟩)] : Array Value)[t]? = some v := by
          match t, hlt with
          | 0, _ => exact ⟨_, .inl rfl, rfl⟩
          | 1, _ => exact ⟨_, .inr ⟨z, rfl, P4.out⟩, rfl⟩
        obtain ⟨v, hdv, hvt⟩ := hdead
        have hld : ∀ w', Below W.heap.size W w' → w'.cell? ⟨z + 1, t, none⟩ = some v := fun w' hw' => cell_at ((hw'.block _ hzW1).trans L4.out) t _ hvt
        have hDD : ∀ w', Below W.heap.size W w' → DeadD w' v := fun w' hw' => hdv.below hw'
        have HLD := Bx.mk hld; have HDD := Bx.mk hDD; clear hld hDD hdv hvt
        have c0r := HLD.out wr HB.out
        go_wp2_with fail
        have htw := fun n => twin_any (wr.drewN n) (.slice a0 l.length c0) l ((HS4.out.kept (Keep.of_below HB.out (fun _ => False)) (fun _ _ h => h)).kept (Keep.drewN (fun _ => False) wr n) (fun _ _ h => h)) (by omega)
        have hbn : ∀ n, Below W.heap.size W ((wr.drewN n).alloc (.cells (ocells (l ++ [128])) 5)) := fun n => ((HB.out.trans (below_refl' wr n |>.mono HB.out.size)).alloc HB.out.size _)
        have hdn := fun n => write_dead _ v (.slice (some ⟨(wr.drewN n).heap.size, 0, none⟩) l.length (l.length + 1)) (HDD.out _ (hbn n))
        have HTW := Bx.mk htw; have HBN := Bx.mk hbn; have HDN := Bx.mk hdn; clear htw hbn hdn
        go_region_held3 (fun w' => w'.cell? ⟨z + 1, t, none⟩ = some v) (go_keep) ((first | (go_at_call 18; refine (HTW.out 1).mono ?_; rintro e w' ⟨rfl, rfl⟩) | (go_at_call 15; refine (HDN.out 1).mono ?_; rintro e w' ⟨rfl, rfl⟩)))
        have hb5 := HBN.out 1
        clear HTW HBN HDN c0r
        generalize (wr.drewN 1).alloc (.cells (ocells (l ++ [128])) 5) = Y at hb5 ⊢
        have HB5 := Bx.mk hb5; clear hb5
        have c1 := HLD.out Y HB5.out
        have hsd := sum_dead Y v (HDD.out Y HB5.out)
        have HSD := Bx.mk hsd; clear hsd
        go_wp2_with fail
        refine HSD.out.mono ?_
        rintro e Y2 ⟨rfl, hb6⟩
        have hb7 := HB5.out.trans (hb6.mono HB5.out.size)
        have c2 := HLD.out Y2 hb7
        have hln := len_dead Y2 v (HDD.out Y2 hb7)
        have hcp := copy_dead Y2 v (HDD.out Y2 hb7)
        have hq : ∀ w : World, (binOp .neq 38 (.agg (ocells zero32)) (.agg #[.int .u8 0, .int .u8 0, .int .u8 0, .int .u8 0, .int .u8 0, .int .u8 0, .int .u8 0, .int .u8 0, .int .u8 0, .int .u8 0, .int .u8 0, .int .u8 0, .int .u8 0, .int .u8 0, .int .u8 0, .int .u8 0, .int .u8 0, .int .u8 0, .int .u8 0, .int .u8 0, .int .u8 0, .int .u8 0, .int .u8 0, .int .u8 0, .int .u8 0, .int .u8 0, .int .u8 0, .int .u8 0, .int .u8 0, .int .u8 0, .int .u8 0, .int .u8 0])).run Tryd.prog w = .ok (.bool false) w := fun w => (hv_ne w zero32 zero32 zero32_length zero32_length).trans (by simp)
        have HB7 := Bx.mk hb7; have HLN := Bx.mk hln; have HCP := Bx.mk hcp; clear hb7 hb6 hln hcp c1
        rw [hv_agg]
        go_wp2_with fail
        refine HLN.out.mono ?_
        rintro e _ ⟨rfl, rfl⟩
        go_wp2_with fail
        refine HCP.out.mono ?_
        rintro e _ ⟨rfl, rfl⟩
        go_wp2_with fail
        go_roundw
        case rel => exact ⟨t + 1, by omega, by go_num, HB7.out⟩
        case measure => simp [intOf]; omega
      · obtain rfl : t = 2 := by omega
        go_wp2_with fail
        go_ret
        exact ⟨rfl, KW.out.trans (HB.out.mono KW.out.size)⟩
end Go.Proofs.YtfoknhogclfhhaaDoor
