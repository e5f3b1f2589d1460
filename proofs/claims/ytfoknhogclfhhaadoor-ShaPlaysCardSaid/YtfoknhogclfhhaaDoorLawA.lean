/- cartularylaw01: Beyond, markByte, TwinBytes. -/
import Derived.Test.YtfoknhogclfhhaaDoorAlive
namespace Go.Proofs.YtfoknhogclfhhaaDoor
set_option maxRecDepth 100000
open Go.RowKit
/-- a value that reads as whole numbers from nought on -/
def Ints (w : World) (v : Value) (xs : List Nat) : Prop :=
  ∃ (a : Option Addr) (cap : Nat), v = .slice a xs.length cap ∧ xs.length ≤ cap ∧ cap ≤ maxLen ∧
    (xs ≠ [] → ∃ B off, a = some ⟨B, off, none⟩ ∧ B < w.heap.size ∧ ∀ i, (h : i < xs.length) → w.cell? ⟨B, off + i, none⟩ = some (.int .i64 (xs[i] : Int)))
theorem sum_take_succ (xs : List Nat) (t : Nat) (h : t < xs.length) : (xs.take (t + 1)).sum = (xs.take t).sum + xs[t] := by
  rw [List.take_succ_eq_append_getElem h, List.sum_append]; simp
theorem sum_take_le (xs : List Nat) (t : Nat) : (xs.take t).sum ≤ xs.sum := by
  conv => rhs; rw [← List.take_append_drop t xs]
  rw [List.sum_append]; omega
set_option maxHeartbeats 800000 in
theorem beyond_any (w : World) (v : Value) (xs : List Nat) (hv' : Ints w v xs) (hx : xs.sum < 9223372036854775808) :
    Calls Tryd.prog 10 #[v] w fun e w' => e = .returned (.bool (decide (1048576 < xs.sum))) ∧ w = w' := by
  obtain ⟨a0, c0, rfl, hc1, hc2, hcs⟩ := hv'
  have CS := Bx.mk hcs; have HX := Bx.mk hx
  unfold maxLen at hc2
  clear hcs hx
  go_enter Tryd.func10, Tryd.ntmps10
  go_wp2_with fail
  go_loopw [3, 4] (fun n i wr => ∃ t : Nat, t ≤ xs.length ∧ i = .int .i64 (t : Int) ∧ n = .int .i64 ((xs.take t).sum : Int) ∧ (xs.take t).sum ≤ 1048576 ∧ wr = w) (fun _ i _ => xs.length - (intOf i).toNat)
  case atStart => exact ⟨0, Nat.zero_le _, rfl, rfl, by simp, rfl⟩
  case round =>
    obtain ⟨t, ht, rfl, rfl, hle, rfl⟩ := hrel
    by_cases hlt : t < xs.length
    · obtain ⟨B, off, rfl, hB, hcc⟩ := CS.out (by rintro rfl; simp at hlt)
      have hcell := hcc t hlt
      have h1 := sum_take_succ xs t hlt
      have h2 := sum_take_le xs (t + 1)
      have h3 := HX.out
      clear hcc
      generalize hq : xs[t] = x at hcell h1 h3
      generalize hp : (xs.take t).sum = s at h1 hle ⊢
      generalize hp3 : (xs.take (t + 1)).sum = s' at h1 h2
      have HP3 := Bx.mk hp3
      clear hp3 hp hq HX CS
      by_cases hgt : 1048576 < s + x
      · go_wp2_with fail
        go_ret
        have : 1048576 < xs.sum := by omega
        simp [this]
      · go_wp2_with fail
        go_roundw
        case rel => exact ⟨t + 1, hlt, by go_num, by rw [HP3.out]; go_num, by rw [HP3.out]; omega, by first | rfl | trivial⟩
        case measure => simp [intOf]; omega
    · obtain rfl : t = xs.length := by omega
      rw [List.take_length] at hle ⊢
      go_wp2_with fail
      go_ret
      have : ¬ 1048576 < xs.sum := by omega
      simp [this]
theorem mark_any (w : World) : Calls Tryd.prog 31 #[.int .i64 7777] w fun e w' => e = .returned (.int .u8 128) ∧ w = w' := by
  go_enter Tryd.func31, Tryd.ntmps31
  go_wp2
  go_ret
  exact ⟨rfl, rfl⟩
/-- the copy's bytes behind t rounds -/
def twinI (l : List UInt8) (t : Nat) : List UInt8 := l.take t ++ List.replicate (l.length + 1 - t) 0
theorem twinI_length (l : List UInt8) (t : Nat) (h : t ≤ l.length) : (twinI l t).length = l.length + 1 := by unfold twinI; simp; omega
theorem twinI_step (l : List UInt8) (t : Nat) (h : t < l.length) : (twinI l t).set t l[t] = twinI l (t + 1) := by
  unfold twinI
  rw [List.set_append, if_neg (by simp; omega), List.take_succ_eq_append_getElem h, List.append_assoc]
  congr 1
  rw [show l.length + 1 - t = (l.length + 1 - (t + 1)) + 1 by omega, List.replicate_succ]
  simp [Nat.min_eq_left (Nat.le_of_lt h)]
theorem twinI_whole (l : List UInt8) : (twinI l l.length).set l.length 128 = l ++ [128] := by
  unfold twinI; simp
theorem twinI_zero (l : List UInt8) : ocells (twinI l 0) = Array.replicate (l.length + 1) (.int .u8 0) := by
  unfold twinI ocells bcells; simp [bcell]
set_option maxHeartbeats 1600000 in
theorem twin_any (w : World) (v : Value) (l : List UInt8) (hS : Src w v l) (hl : l.length ≤ 70368744177664) :
    Calls Tryd.prog 18 #[v] w fun e w' => e = .returned (.slice (some ⟨w.heap.size, 0, none⟩) l.length (l.length + 1)) ∧ w' = w.alloc (.cells (ocells (l ++ [128])) 5) := by
  obtain ⟨a0, c0, rfl, hc1, hc2, hnil, hcs⟩ := hS
  have CS := Bx.mk hcs
  unfold maxLen at hc2
  clear hcs
  obtain ⟨i0, hi, hz0, hz1, hz2⟩ := info_parts info8
  have hm := run_make (P := Tryd.prog) w 30 5 i0 (.int .u8 0) underB hi hz0 .i64 .i64 (l.length + 1) (l.length + 1) (by omega) (Int.le_refl _) (by rw [hz2]; omega) (by omega)
  rw [show ((l.length : Int) + 1).toNat = l.length + 1 by omega, hz1, Nat.mul_one, show madeCells (Value.int .u8 0).cells (l.length + 1) = ocells (twinI l 0) by rw [twinI_zero]; exact Array.ext' (by rw [show (Value.int .u8 0).cells = #[.int .u8 0] from rfl, toList_madeCells_one]; simp)] at hm
  go_enter Tryd.func18, Tryd.ntmps18
  have HI := Bx.mk hi; have HZ := Bx.mk hz0
  clear hi hz0
  go_upto_block 0 with (fail)
  clear hm
  go_cut [] (fun wc => wc = w.alloc (.cells (ocells (twinI l l.length)) 5))
  case first =>
    go_wp2_with fail
    go_loopw [4] (fun i wr => ∃ t : Nat, t ≤ l.length ∧ i = .int .i64 (t : Int) ∧ wr = w.alloc (.cells (ocells (twinI l t)) 5)) (fun i _ => l.length - (intOf i).toNat)
    case atStart => exact ⟨0, Nat.zero_le _, rfl, rfl⟩
    case round =>
      obtain ⟨t, ht, rfl, rfl⟩ := hrel
      by_cases hlt : t < l.length
      · obtain ⟨B, off, rfl, hB, hcc⟩ := CS.out (by rintro rfl; simp at hlt)
        have hlen := twinI_length l t ht
        have c0' : (w.alloc (.cells (ocells (twinI l t)) 5)).cell? ⟨B, off + t, none⟩ = some (.int .u8 (l[t].toNat : Int)) := by
          rw [World.cell?_alloc_past _ _ _ hB]; exact hcc t hlt
        have c1 : (w.alloc (.cells (ocells (twinI l t)) 5)).cell? ⟨w.heap.size, t, none⟩ = some (bcell ((twinI l t)[t]'(by rw [hlen]; omega))) := by
          rw [World.cell?_alloc_at _ _ _ _ rfl, ocells_get _ _ (by rw [hlen]; omega)]
        have f1 : (w.alloc (.cells (ocells (twinI l t)) 5)).frozen? ⟨w.heap.size, t, none⟩ = false := World.frozen?_alloc_at _ _ _ _ rfl
        generalize hW : w.alloc (.cells (ocells (twinI l t)) 5) = Z at c0' c1 f1 ⊢
        generalize hx : (l[t].toNat : Int) = x at c0'
        generalize (twinI l t)[t]'(by rw [hlen]; omega) = y at c1
        generalize hwh : w.heap.size = n at c1 f1 ⊢
        have HW := Bx.mk hW; have HXX := Bx.mk hx; have HWH := Bx.mk hwh; clear hW hx hcc hwh
        go_wp2_with fail
        go_roundw
        case rel =>
          refine ⟨t + 1, hlt, by go_num, ?_⟩
          rw [← HW.out, World.setCell_alloc_at _ _ _ _ _ HWH.out.symm, ← HXX.out, show Value.int .u8 (l[t].toNat : Int) = bcell l[t] from rfl, ocells_set, twinI_step _ _ hlt]
        case measure => simp [intOf]; omega
      · obtain rfl : t = l.length := by omega
        go_wp2_with fail
        go_meet
        case rel => rfl
  case rest =>
    subst hcut
    have hlen := twinI_length l l.length (Nat.le_refl _)
    have c1 : (w.alloc (.cells (ocells (twinI l l.length)) 5)).cell? ⟨w.heap.size, l.length, none⟩ = some (bcell ((twinI l l.length)[l.length]'(by rw [hlen]; omega))) := by
      rw [World.cell?_alloc_at _ _ _ _ rfl, ocells_get _ _ (by rw [hlen]; omega)]
    have f1 : (w.alloc (.cells (ocells (twinI l l.length)) 5)).frozen? ⟨w.heap.size, l.length, none⟩ = false := World.frozen?_alloc_at _ _ _ _ rfl
    generalize (twinI l l.length)[l.length]'(by rw [hlen]; omega) = y at c1
    generalize hW : w.alloc (.cells (ocells (twinI l l.length)) 5) = Z at c1 f1 ⊢
    generalize hwh : w.heap.size = n at c1 f1 ⊢
    have HW := Bx.mk hW; have HWH := Bx.mk hwh; clear hW hwh
    go_wp2_with fail
    refine (mark_any Z).mono ?_
    rintro e w1 ⟨rfl, rfl⟩
    go_wp2_with fail
    go_ret
    rw [← HW.out, HWH.out, World.setCell_alloc_at _ _ _ _ _ HWH.out.symm]
    exact ⟨rfl, by rw [show Value.int .u8 128 = bcell 128 from rfl, ocells_set, twinI_whole]⟩
end Go.Proofs.YtfoknhogclfhhaaDoor
