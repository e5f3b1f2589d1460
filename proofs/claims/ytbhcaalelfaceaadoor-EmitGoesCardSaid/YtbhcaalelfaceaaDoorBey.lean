/- cartularylaw01.Beyond. -/
import Derived.Test.YtbhcaalelfaceaaDoorChecked
import Derived.Test.YtbhcaalelfaceaaDoorG1
import Derived.WalkKit
import Derived.LoopTactic
namespace Go.Proofs.YtbhcaalelfaceaaDoor
set_option maxRecDepth 100000
open Go.RowKit
/-- a value that reads as whole numbers from nought on -/
def Ints (w : World) (v : Value) (xs : List Nat) : Prop :=
  ∃ (a : Option Addr) (cap : Nat), v = .slice a xs.length cap ∧ xs.length ≤ cap ∧ cap ≤ maxLen ∧
    (xs ≠ [] → ∃ B off, a = some ⟨B, off, none⟩ ∧ B < w.heap.size ∧ ∀ i, (h : i < xs.length) → w.cell? ⟨B, off + i, none⟩ = some (.int .i64 (xs[i] : Int)))
theorem sum_take_succ (xs : List Nat) (t : Nat) (h : t < xs.length) : (xs.take (t + 1)).sum = (xs.take t).sum + xs[t] := by
  rw [List.take_succ_eq_append_getElem h, List.sum_append]; simp
theorem sum_take_le (xs : List Nat) (t : Nat) : (xs.take t).sum ≤ xs.sum := by
  conv => rhs; rw [← List.take_append_drop t xs]
  rw [List.sum_append]; omega
set_option maxHeartbeats 800000 in
theorem beyond_any (w : World) (v : Value) (xs : List Nat) (hv' : Ints w v xs) (hx : xs.sum < 9223372036854775808) :
    Calls Tryd.prog 8 #[v] w fun e w' => e = .returned (.bool (decide (1048576 < xs.sum))) ∧ w = w' := by
  obtain ⟨a0, c0, rfl, hc1, hc2, hcs⟩ := hv'
  have CS := Bx.mk hcs; have HX := Bx.mk hx
  unfold maxLen at hc2
  clear hcs hx
  go_enter Tryd.func8, Tryd.ntmps8
  go_wp2_with fail
  go_loopw [3, 4] (fun n i wr => ∃ t : Nat, t ≤ xs.length ∧ i = .int .i64 (t : Int) ∧ n = .int .i64 ((xs.take t).sum : Int) ∧ (xs.take t).sum ≤ 1048576 ∧ wr = w) (fun _ i _ => xs.length - (intOf i).toNat)
  case atStart => exact ⟨0, Nat.zero_le _, rfl, rfl, by simp, rfl⟩
  case round =>
    obtain ⟨t, ht, rfl, rfl, hle, rfl⟩ := hrel
    by_cases hlt : t < xs.length
    · obtain ⟨B, off, rfl, hB, hcc⟩ := CS.out (by rintro rfl; simp at hlt)
      have hcell := hcc t hlt
      have h1 := sum_take_succ xs t hlt
      have h2 := sum_take_le xs (t + 1)
      have h3 := HX.out
      clear hcc
      generalize hq : xs[t] = x at hcell h1 h3
      generalize hp : (xs.take t).sum = s at h1 hle ⊢
      generalize hp3 : (xs.take (t + 1)).sum = s' at h1 h2
      have HP3 := Bx.mk hp3
      clear hp3 hp hq HX CS
      by_cases hgt : 1048576 < s + x
      · go_wp2_with fail
        go_ret
        have : 1048576 < xs.sum := by omega
        simp [this]
      · go_wp2_with fail
        go_roundw
        case rel => exact ⟨t + 1, hlt, by go_num, by rw [HP3.out]; go_num, by rw [HP3.out]; omega, by first | rfl | trivial⟩
        case measure => simp [intOf]; omega
    · obtain rfl : t = xs.length := by omega
      rw [List.take_length] at hle ⊢
      go_wp2_with fail
      go_ret
      have : ¬ 1048576 < xs.sum := by omega
      simp [this]
theorem ints_one (w : World) (k n : Nat) (hn : n = w.heap.size) : Ints (w.alloc (.cells #[.int .i64 (k : Int)] 3)) (.slice (some ⟨n, 0, none⟩) 1 1) [k] := by
  subst hn
  exact ⟨_, 1, rfl, Nat.le_refl _, by simp [maxLen], fun _ => ⟨w.heap.size, 0, rfl, by simp, fun i hi => by
    obtain rfl : i = 0 := by simpa using hi
    rw [World.cell?_alloc_at _ _ _ _ rfl]; rfl⟩⟩
end Go.Proofs.YtbhcaalelfaceaaDoor
