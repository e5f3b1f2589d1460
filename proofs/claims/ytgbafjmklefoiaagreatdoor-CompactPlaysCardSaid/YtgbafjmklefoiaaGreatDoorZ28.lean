/- cartularylaw01.Book: fill, grow and look over a kind of which the book holds no list. -/
import Derived.Test.YtgbafjmklefoiaaGreatDoorZ04
namespace Go.Proofs.YtgbafjmklefoiaaGreatDoor
set_option maxRecDepth 100000
open Go.RowKit
/-- a book in memory: how many lists it has numbered, and the lists by kind -/
structure BkP (w : World) (b : Nat) (n : Int) (l : Nat → Value) : Prop where
  hb : w.heap[b]? = some (.cells #[.int .i64 n, l 1, l 2, l 3, l 4, l 5, l 6, l 7, l 8, l 9, l 10, l 11, l 12, l 13, l 14, l 15, l 16] 51 (0, 0))
theorem BkP.below {w w' : World} {b : Nat} {n : Int} {l : Nat → Value} (h : BkP w b n l) (k : Below w.heap.size w w') : BkP w' b n l := ⟨(k.block b (Array.getElem?_eq_some_iff.1 h.hb).1).trans h.hb⟩
theorem fillInt_nil (w : World) (b : Nat) (n : Int) (l : Nat → Value) (h : BkP w b n l) (h0 : l 1 = .slice none 0 0) : Calls Tryz.prog 31 #[.pointer (some ⟨b, 0, none⟩)] w fun e w' => e = .returned (.tuple #[]) ∧ w' = w := by
  have c := er_cellAt h.hb 1 _ rfl
  rw [h0] at c
  clear h h0
  go_enter Tryz.func31, Tryz.ntmps31
  go_wp2_with fail
  go_loopw [2] (fun iv wr => iv = .int .i64 0 ∧ wr = w) (fun _ _ => 0)
  case atStart => exact ⟨rfl, rfl⟩
  case round =>
    obtain ⟨rfl, rfl⟩ := hrel
    go_wp2_with fail
    go_end0
    exact ⟨rfl, rfl⟩
theorem growInt_nil (w : World) (b : Nat) (n : Int) (l : Nat → Value) (h : BkP w b n l) (h0 : l 1 = .slice none 0 0) : Calls Tryz.prog 47 #[.pointer (some ⟨b, 0, none⟩)] w fun e w' => e = .returned (.tuple #[]) ∧ w' = w := by
  have c := er_cellAt h.hb 1 _ rfl
  rw [h0] at c
  clear h h0
  go_enter Tryz.func47, Tryz.ntmps47
  go_wp2_with fail
  go_loopw [2] (fun iv wr => iv = .int .i64 0 ∧ wr = w) (fun _ _ => 0)
  case atStart => exact ⟨rfl, rfl⟩
  case round =>
    obtain ⟨rfl, rfl⟩ := hrel
    go_wp2_with fail
    go_end0
    exact ⟨rfl, rfl⟩
theorem lookInt_nil (w : World) (b : Nat) (n : Int) (l : Nat → Value) (h : BkP w b n l) (h0 : l 1 = .slice none 0 0) : Calls Tryz.prog 63 #[.pointer (some ⟨b, 0, none⟩)] w fun e w' => e = .returned (.bool true) ∧ w' = w := by
  have c := er_cellAt h.hb 1 _ rfl
  rw [h0] at c
  clear h h0
  go_enter Tryz.func63, Tryz.ntmps63
  go_wp2_with fail
  go_loopw [3] (fun iv wr => iv = .int .i64 0 ∧ wr = w) (fun _ _ => 0)
  case atStart => exact ⟨rfl, rfl⟩
  case round =>
    obtain ⟨rfl, rfl⟩ := hrel
    go_wp2_with fail
    go_ret
    exact ⟨rfl, rfl⟩
theorem fillByte_nil (w : World) (b : Nat) (n : Int) (l : Nat → Value) (h : BkP w b n l) (h0 : l 2 = .slice none 0 0) : Calls Tryz.prog 32 #[.pointer (some ⟨b, 0, none⟩)] w fun e w' => e = .returned (.tuple #[]) ∧ w' = w := by
  have c := er_cellAt h.hb 2 _ rfl
  rw [h0] at c
  clear h h0
  go_enter Tryz.func32, Tryz.ntmps32
  go_wp2_with fail
  go_loopw [2] (fun iv wr => iv = .int .i64 0 ∧ wr = w) (fun _ _ => 0)
  case atStart => exact ⟨rfl, rfl⟩
  case round =>
    obtain ⟨rfl, rfl⟩ := hrel
    go_wp2_with fail
    go_end0
    exact ⟨rfl, rfl⟩
theorem growByte_nil (w : World) (b : Nat) (n : Int) (l : Nat → Value) (h : BkP w b n l) (h0 : l 2 = .slice none 0 0) : Calls Tryz.prog 48 #[.pointer (some ⟨b, 0, none⟩)] w fun e w' => e = .returned (.tuple #[]) ∧ w' = w := by
  have c := er_cellAt h.hb 2 _ rfl
  rw [h0] at c
  clear h h0
  go_enter Tryz.func48, Tryz.ntmps48
  go_wp2_with fail
  go_loopw [2] (fun iv wr => iv = .int .i64 0 ∧ wr = w) (fun _ _ => 0)
  case atStart => exact ⟨rfl, rfl⟩
  case round =>
    obtain ⟨rfl, rfl⟩ := hrel
    go_wp2_with fail
    go_end0
    exact ⟨rfl, rfl⟩
theorem lookByte_nil (w : World) (b : Nat) (n : Int) (l : Nat → Value) (h : BkP w b n l) (h0 : l 2 = .slice none 0 0) : Calls Tryz.prog 64 #[.pointer (some ⟨b, 0, none⟩)] w fun e w' => e = .returned (.bool true) ∧ w' = w := by
  have c := er_cellAt h.hb 2 _ rfl
  rw [h0] at c
  clear h h0
  go_enter Tryz.func64, Tryz.ntmps64
  go_wp2_with fail
  go_loopw [3] (fun iv wr => iv = .int .i64 0 ∧ wr = w) (fun _ _ => 0)
  case atStart => exact ⟨rfl, rfl⟩
  case round =>
    obtain ⟨rfl, rfl⟩ := hrel
    go_wp2_with fail
    go_ret
    exact ⟨rfl, rfl⟩
theorem fillText_nil (w : World) (b : Nat) (n : Int) (l : Nat → Value) (h : BkP w b n l) (h0 : l 3 = .slice none 0 0) : Calls Tryz.prog 33 #[.pointer (some ⟨b, 0, none⟩)] w fun e w' => e = .returned (.tuple #[]) ∧ w' = w := by
  have c := er_cellAt h.hb 3 _ rfl
  rw [h0] at c
  clear h h0
  go_enter Tryz.func33, Tryz.ntmps33
  go_wp2_with fail
  go_loopw [2] (fun iv wr => iv = .int .i64 0 ∧ wr = w) (fun _ _ => 0)
  case atStart => exact ⟨rfl, rfl⟩
  case round =>
    obtain ⟨rfl, rfl⟩ := hrel
    go_wp2_with fail
    go_end0
    exact ⟨rfl, rfl⟩
theorem growText_nil (w : World) (b : Nat) (n : Int) (l : Nat → Value) (h : BkP w b n l) (h0 : l 3 = .slice none 0 0) : Calls Tryz.prog 49 #[.pointer (some ⟨b, 0, none⟩)] w fun e w' => e = .returned (.tuple #[]) ∧ w' = w := by
  have c := er_cellAt h.hb 3 _ rfl
  rw [h0] at c
  clear h h0
  go_enter Tryz.func49, Tryz.ntmps49
  go_wp2_with fail
  go_loopw [2] (fun iv wr => iv = .int .i64 0 ∧ wr = w) (fun _ _ => 0)
  case atStart => exact ⟨rfl, rfl⟩
  case round =>
    obtain ⟨rfl, rfl⟩ := hrel
    go_wp2_with fail
    go_end0
    exact ⟨rfl, rfl⟩
theorem lookText_nil (w : World) (b : Nat) (n : Int) (l : Nat → Value) (h : BkP w b n l) (h0 : l 3 = .slice none 0 0) : Calls Tryz.prog 65 #[.pointer (some ⟨b, 0, none⟩)] w fun e w' => e = .returned (.bool true) ∧ w' = w := by
  have c := er_cellAt h.hb 3 _ rfl
  rw [h0] at c
  clear h h0
  go_enter Tryz.func65, Tryz.ntmps65
  go_wp2_with fail
  go_loopw [3] (fun iv wr => iv = .int .i64 0 ∧ wr = w) (fun _ _ => 0)
  case atStart => exact ⟨rfl, rfl⟩
  case round =>
    obtain ⟨rfl, rfl⟩ := hrel
    go_wp2_with fail
    go_ret
    exact ⟨rfl, rfl⟩
theorem fillNumber_nil (w : World) (b : Nat) (n : Int) (l : Nat → Value) (h : BkP w b n l) (h0 : l 4 = .slice none 0 0) : Calls Tryz.prog 34 #[.pointer (some ⟨b, 0, none⟩)] w fun e w' => e = .returned (.tuple #[]) ∧ w' = w := by
  have c := er_cellAt h.hb 4 _ rfl
  rw [h0] at c
  clear h h0
  go_enter Tryz.func34, Tryz.ntmps34
  go_wp2_with fail
  go_loopw [2] (fun iv wr => iv = .int .i64 0 ∧ wr = w) (fun _ _ => 0)
  case atStart => exact ⟨rfl, rfl⟩
  case round =>
    obtain ⟨rfl, rfl⟩ := hrel
    go_wp2_with fail
    go_end0
    exact ⟨rfl, rfl⟩
theorem growNumber_nil (w : World) (b : Nat) (n : Int) (l : Nat → Value) (h : BkP w b n l) (h0 : l 4 = .slice none 0 0) : Calls Tryz.prog 50 #[.pointer (some ⟨b, 0, none⟩)] w fun e w' => e = .returned (.tuple #[]) ∧ w' = w := by
  have c := er_cellAt h.hb 4 _ rfl
  rw [h0] at c
  clear h h0
  go_enter Tryz.func50, Tryz.ntmps50
  go_wp2_with fail
  go_loopw [2] (fun iv wr => iv = .int .i64 0 ∧ wr = w) (fun _ _ => 0)
  case atStart => exact ⟨rfl, rfl⟩
  case round =>
    obtain ⟨rfl, rfl⟩ := hrel
    go_wp2_with fail
    go_end0
    exact ⟨rfl, rfl⟩
theorem lookNumber_nil (w : World) (b : Nat) (n : Int) (l : Nat → Value) (h : BkP w b n l) (h0 : l 4 = .slice none 0 0) : Calls Tryz.prog 66 #[.pointer (some ⟨b, 0, none⟩)] w fun e w' => e = .returned (.bool true) ∧ w' = w := by
  have c := er_cellAt h.hb 4 _ rfl
  rw [h0] at c
  clear h h0
  go_enter Tryz.func66, Tryz.ntmps66
  go_wp2_with fail
  go_loopw [3] (fun iv wr => iv = .int .i64 0 ∧ wr = w) (fun _ _ => 0)
  case atStart => exact ⟨rfl, rfl⟩
  case round =>
    obtain ⟨rfl, rfl⟩ := hrel
    go_wp2_with fail
    go_ret
    exact ⟨rfl, rfl⟩
theorem fillCoord_nil (w : World) (b : Nat) (n : Int) (l : Nat → Value) (h : BkP w b n l) (h0 : l 6 = .slice none 0 0) : Calls Tryz.prog 36 #[.pointer (some ⟨b, 0, none⟩)] w fun e w' => e = .returned (.tuple #[]) ∧ w' = w := by
  have c := er_cellAt h.hb 6 _ rfl
  rw [h0] at c
  clear h h0
  go_enter Tryz.func36, Tryz.ntmps36
  go_wp2_with fail
  go_loopw [2] (fun iv wr => iv = .int .i64 0 ∧ wr = w) (fun _ _ => 0)
  case atStart => exact ⟨rfl, rfl⟩
  case round =>
    obtain ⟨rfl, rfl⟩ := hrel
    go_wp2_with fail
    go_end0
    exact ⟨rfl, rfl⟩
theorem growCoord_nil (w : World) (b : Nat) (n : Int) (l : Nat → Value) (h : BkP w b n l) (h0 : l 6 = .slice none 0 0) : Calls Tryz.prog 52 #[.pointer (some ⟨b, 0, none⟩)] w fun e w' => e = .returned (.tuple #[]) ∧ w' = w := by
  have c := er_cellAt h.hb 6 _ rfl
  rw [h0] at c
  clear h h0
  go_enter Tryz.func52, Tryz.ntmps52
  go_wp2_with fail
  go_loopw [2] (fun iv wr => iv = .int .i64 0 ∧ wr = w) (fun _ _ => 0)
  case atStart => exact ⟨rfl, rfl⟩
  case round =>
    obtain ⟨rfl, rfl⟩ := hrel
    go_wp2_with fail
    go_end0
    exact ⟨rfl, rfl⟩
theorem lookCoord_nil (w : World) (b : Nat) (n : Int) (l : Nat → Value) (h : BkP w b n l) (h0 : l 6 = .slice none 0 0) : Calls Tryz.prog 68 #[.pointer (some ⟨b, 0, none⟩)] w fun e w' => e = .returned (.bool true) ∧ w' = w := by
  have c := er_cellAt h.hb 6 _ rfl
  rw [h0] at c
  clear h h0
  go_enter Tryz.func68, Tryz.ntmps68
  go_wp2_with fail
  go_loopw [3] (fun iv wr => iv = .int .i64 0 ∧ wr = w) (fun _ _ => 0)
  case atStart => exact ⟨rfl, rfl⟩
  case round =>
    obtain ⟨rfl, rfl⟩ := hrel
    go_wp2_with fail
    go_ret
    exact ⟨rfl, rfl⟩
theorem fillSpan_nil (w : World) (b : Nat) (n : Int) (l : Nat → Value) (h : BkP w b n l) (h0 : l 7 = .slice none 0 0) : Calls Tryz.prog 37 #[.pointer (some ⟨b, 0, none⟩)] w fun e w' => e = .returned (.tuple #[]) ∧ w' = w := by
  have c := er_cellAt h.hb 7 _ rfl
  rw [h0] at c
  clear h h0
  go_enter Tryz.func37, Tryz.ntmps37
  go_wp2_with fail
  go_loopw [2] (fun iv wr => iv = .int .i64 0 ∧ wr = w) (fun _ _ => 0)
  case atStart => exact ⟨rfl, rfl⟩
  case round =>
    obtain ⟨rfl, rfl⟩ := hrel
    go_wp2_with fail
    go_end0
    exact ⟨rfl, rfl⟩
theorem growSpan_nil (w : World) (b : Nat) (n : Int) (l : Nat → Value) (h : BkP w b n l) (h0 : l 7 = .slice none 0 0) : Calls Tryz.prog 53 #[.pointer (some ⟨b, 0, none⟩)] w fun e w' => e = .returned (.tuple #[]) ∧ w' = w := by
  have c := er_cellAt h.hb 7 _ rfl
  rw [h0] at c
  clear h h0
  go_enter Tryz.func53, Tryz.ntmps53
  go_wp2_with fail
  go_loopw [2] (fun iv wr => iv = .int .i64 0 ∧ wr = w) (fun _ _ => 0)
  case atStart => exact ⟨rfl, rfl⟩
  case round =>
    obtain ⟨rfl, rfl⟩ := hrel
    go_wp2_with fail
    go_end0
    exact ⟨rfl, rfl⟩
theorem lookSpan_nil (w : World) (b : Nat) (n : Int) (l : Nat → Value) (h : BkP w b n l) (h0 : l 7 = .slice none 0 0) : Calls Tryz.prog 69 #[.pointer (some ⟨b, 0, none⟩)] w fun e w' => e = .returned (.bool true) ∧ w' = w := by
  have c := er_cellAt h.hb 7 _ rfl
  rw [h0] at c
  clear h h0
  go_enter Tryz.func69, Tryz.ntmps69
  go_wp2_with fail
  go_loopw [3] (fun iv wr => iv = .int .i64 0 ∧ wr = w) (fun _ _ => 0)
  case atStart => exact ⟨rfl, rfl⟩
  case round =>
    obtain ⟨rfl, rfl⟩ := hrel
    go_wp2_with fail
    go_ret
    exact ⟨rfl, rfl⟩
theorem fillNode_nil (w : World) (b : Nat) (n : Int) (l : Nat → Value) (h : BkP w b n l) (h0 : l 8 = .slice none 0 0) : Calls Tryz.prog 38 #[.pointer (some ⟨b, 0, none⟩)] w fun e w' => e = .returned (.tuple #[]) ∧ w' = w := by
  have c := er_cellAt h.hb 8 _ rfl
  rw [h0] at c
  clear h h0
  go_enter Tryz.func38, Tryz.ntmps38
  go_wp2_with fail
  go_loopw [2] (fun iv wr => iv = .int .i64 0 ∧ wr = w) (fun _ _ => 0)
  case atStart => exact ⟨rfl, rfl⟩
  case round =>
    obtain ⟨rfl, rfl⟩ := hrel
    go_wp2_with fail
    go_end0
    exact ⟨rfl, rfl⟩
theorem growNode_nil (w : World) (b : Nat) (n : Int) (l : Nat → Value) (h : BkP w b n l) (h0 : l 8 = .slice none 0 0) : Calls Tryz.prog 54 #[.pointer (some ⟨b, 0, none⟩)] w fun e w' => e = .returned (.tuple #[]) ∧ w' = w := by
  have c := er_cellAt h.hb 8 _ rfl
  rw [h0] at c
  clear h h0
  go_enter Tryz.func54, Tryz.ntmps54
  go_wp2_with fail
  go_loopw [2] (fun iv wr => iv = .int .i64 0 ∧ wr = w) (fun _ _ => 0)
  case atStart => exact ⟨rfl, rfl⟩
  case round =>
    obtain ⟨rfl, rfl⟩ := hrel
    go_wp2_with fail
    go_end0
    exact ⟨rfl, rfl⟩
theorem lookNode_nil (w : World) (b : Nat) (n : Int) (l : Nat → Value) (h : BkP w b n l) (h0 : l 8 = .slice none 0 0) : Calls Tryz.prog 70 #[.pointer (some ⟨b, 0, none⟩)] w fun e w' => e = .returned (.bool true) ∧ w' = w := by
  have c := er_cellAt h.hb 8 _ rfl
  rw [h0] at c
  clear h h0
  go_enter Tryz.func70, Tryz.ntmps70
  go_wp2_with fail
  go_loopw [3] (fun iv wr => iv = .int .i64 0 ∧ wr = w) (fun _ _ => 0)
  case atStart => exact ⟨rfl, rfl⟩
  case round =>
    obtain ⟨rfl, rfl⟩ := hrel
    go_wp2_with fail
    go_ret
    exact ⟨rfl, rfl⟩
theorem fillTile_nil (w : World) (b : Nat) (n : Int) (l : Nat → Value) (h : BkP w b n l) (h0 : l 9 = .slice none 0 0) : Calls Tryz.prog 39 #[.pointer (some ⟨b, 0, none⟩)] w fun e w' => e = .returned (.tuple #[]) ∧ w' = w := by
  have c := er_cellAt h.hb 9 _ rfl
  rw [h0] at c
  clear h h0
  go_enter Tryz.func39, Tryz.ntmps39
  go_wp2_with fail
  go_loopw [2] (fun iv wr => iv = .int .i64 0 ∧ wr = w) (fun _ _ => 0)
  case atStart => exact ⟨rfl, rfl⟩
  case round =>
    obtain ⟨rfl, rfl⟩ := hrel
    go_wp2_with fail
    go_end0
    exact ⟨rfl, rfl⟩
theorem growTile_nil (w : World) (b : Nat) (n : Int) (l : Nat → Value) (h : BkP w b n l) (h0 : l 9 = .slice none 0 0) : Calls Tryz.prog 55 #[.pointer (some ⟨b, 0, none⟩)] w fun e w' => e = .returned (.tuple #[]) ∧ w' = w := by
  have c := er_cellAt h.hb 9 _ rfl
  rw [h0] at c
  clear h h0
  go_enter Tryz.func55, Tryz.ntmps55
  go_wp2_with fail
  go_loopw [2] (fun iv wr => iv = .int .i64 0 ∧ wr = w) (fun _ _ => 0)
  case atStart => exact ⟨rfl, rfl⟩
  case round =>
    obtain ⟨rfl, rfl⟩ := hrel
    go_wp2_with fail
    go_end0
    exact ⟨rfl, rfl⟩
theorem lookTile_nil (w : World) (b : Nat) (n : Int) (l : Nat → Value) (h : BkP w b n l) (h0 : l 9 = .slice none 0 0) : Calls Tryz.prog 71 #[.pointer (some ⟨b, 0, none⟩)] w fun e w' => e = .returned (.bool true) ∧ w' = w := by
  have c := er_cellAt h.hb 9 _ rfl
  rw [h0] at c
  clear h h0
  go_enter Tryz.func71, Tryz.ntmps71
  go_wp2_with fail
  go_loopw [3] (fun iv wr => iv = .int .i64 0 ∧ wr = w) (fun _ _ => 0)
  case atStart => exact ⟨rfl, rfl⟩
  case round =>
    obtain ⟨rfl, rfl⟩ := hrel
    go_wp2_with fail
    go_ret
    exact ⟨rfl, rfl⟩
theorem fillEntry_nil (w : World) (b : Nat) (n : Int) (l : Nat → Value) (h : BkP w b n l) (h0 : l 10 = .slice none 0 0) : Calls Tryz.prog 40 #[.pointer (some ⟨b, 0, none⟩)] w fun e w' => e = .returned (.tuple #[]) ∧ w' = w := by
  have c := er_cellAt h.hb 10 _ rfl
  rw [h0] at c
  clear h h0
  go_enter Tryz.func40, Tryz.ntmps40
  go_wp2_with fail
  go_loopw [2] (fun iv wr => iv = .int .i64 0 ∧ wr = w) (fun _ _ => 0)
  case atStart => exact ⟨rfl, rfl⟩
  case round =>
    obtain ⟨rfl, rfl⟩ := hrel
    go_wp2_with fail
    go_end0
    exact ⟨rfl, rfl⟩
theorem growEntry_nil (w : World) (b : Nat) (n : Int) (l : Nat → Value) (h : BkP w b n l) (h0 : l 10 = .slice none 0 0) : Calls Tryz.prog 56 #[.pointer (some ⟨b, 0, none⟩)] w fun e w' => e = .returned (.tuple #[]) ∧ w' = w := by
  have c := er_cellAt h.hb 10 _ rfl
  rw [h0] at c
  clear h h0
  go_enter Tryz.func56, Tryz.ntmps56
  go_wp2_with fail
  go_loopw [2] (fun iv wr => iv = .int .i64 0 ∧ wr = w) (fun _ _ => 0)
  case atStart => exact ⟨rfl, rfl⟩
  case round =>
    obtain ⟨rfl, rfl⟩ := hrel
    go_wp2_with fail
    go_end0
    exact ⟨rfl, rfl⟩
theorem lookEntry_nil (w : World) (b : Nat) (n : Int) (l : Nat → Value) (h : BkP w b n l) (h0 : l 10 = .slice none 0 0) : Calls Tryz.prog 72 #[.pointer (some ⟨b, 0, none⟩)] w fun e w' => e = .returned (.bool true) ∧ w' = w := by
  have c := er_cellAt h.hb 10 _ rfl
  rw [h0] at c
  clear h h0
  go_enter Tryz.func72, Tryz.ntmps72
  go_wp2_with fail
  go_loopw [3] (fun iv wr => iv = .int .i64 0 ∧ wr = w) (fun _ _ => 0)
  case atStart => exact ⟨rfl, rfl⟩
  case round =>
    obtain ⟨rfl, rfl⟩ := hrel
    go_wp2_with fail
    go_ret
    exact ⟨rfl, rfl⟩
theorem fillFound_nil (w : World) (b : Nat) (n : Int) (l : Nat → Value) (h : BkP w b n l) (h0 : l 11 = .slice none 0 0) : Calls Tryz.prog 41 #[.pointer (some ⟨b, 0, none⟩)] w fun e w' => e = .returned (.tuple #[]) ∧ w' = w := by
  have c := er_cellAt h.hb 11 _ rfl
  rw [h0] at c
  clear h h0
  go_enter Tryz.func41, Tryz.ntmps41
  go_wp2_with fail
  go_loopw [2] (fun iv wr => iv = .int .i64 0 ∧ wr = w) (fun _ _ => 0)
  case atStart => exact ⟨rfl, rfl⟩
  case round =>
    obtain ⟨rfl, rfl⟩ := hrel
    go_wp2_with fail
    go_end0
    exact ⟨rfl, rfl⟩
theorem growFound_nil (w : World) (b : Nat) (n : Int) (l : Nat → Value) (h : BkP w b n l) (h0 : l 11 = .slice none 0 0) : Calls Tryz.prog 57 #[.pointer (some ⟨b, 0, none⟩)] w fun e w' => e = .returned (.tuple #[]) ∧ w' = w := by
  have c := er_cellAt h.hb 11 _ rfl
  rw [h0] at c
  clear h h0
  go_enter Tryz.func57, Tryz.ntmps57
  go_wp2_with fail
  go_loopw [2] (fun iv wr => iv = .int .i64 0 ∧ wr = w) (fun _ _ => 0)
  case atStart => exact ⟨rfl, rfl⟩
  case round =>
    obtain ⟨rfl, rfl⟩ := hrel
    go_wp2_with fail
    go_end0
    exact ⟨rfl, rfl⟩
theorem lookFound_nil (w : World) (b : Nat) (n : Int) (l : Nat → Value) (h : BkP w b n l) (h0 : l 11 = .slice none 0 0) : Calls Tryz.prog 73 #[.pointer (some ⟨b, 0, none⟩)] w fun e w' => e = .returned (.bool true) ∧ w' = w := by
  have c := er_cellAt h.hb 11 _ rfl
  rw [h0] at c
  clear h h0
  go_enter Tryz.func73, Tryz.ntmps73
  go_wp2_with fail
  go_loopw [3] (fun iv wr => iv = .int .i64 0 ∧ wr = w) (fun _ _ => 0)
  case atStart => exact ⟨rfl, rfl⟩
  case round =>
    obtain ⟨rfl, rfl⟩ := hrel
    go_wp2_with fail
    go_ret
    exact ⟨rfl, rfl⟩
theorem fillKnown_nil (w : World) (b : Nat) (n : Int) (l : Nat → Value) (h : BkP w b n l) (h0 : l 12 = .slice none 0 0) : Calls Tryz.prog 42 #[.pointer (some ⟨b, 0, none⟩)] w fun e w' => e = .returned (.tuple #[]) ∧ w' = w := by
  have c := er_cellAt h.hb 12 _ rfl
  rw [h0] at c
  clear h h0
  go_enter Tryz.func42, Tryz.ntmps42
  go_wp2_with fail
  go_loopw [2] (fun iv wr => iv = .int .i64 0 ∧ wr = w) (fun _ _ => 0)
  case atStart => exact ⟨rfl, rfl⟩
  case round =>
    obtain ⟨rfl, rfl⟩ := hrel
    go_wp2_with fail
    go_end0
    exact ⟨rfl, rfl⟩
theorem growKnown_nil (w : World) (b : Nat) (n : Int) (l : Nat → Value) (h : BkP w b n l) (h0 : l 12 = .slice none 0 0) : Calls Tryz.prog 58 #[.pointer (some ⟨b, 0, none⟩)] w fun e w' => e = .returned (.tuple #[]) ∧ w' = w := by
  have c := er_cellAt h.hb 12 _ rfl
  rw [h0] at c
  clear h h0
  go_enter Tryz.func58, Tryz.ntmps58
  go_wp2_with fail
  go_loopw [2] (fun iv wr => iv = .int .i64 0 ∧ wr = w) (fun _ _ => 0)
  case atStart => exact ⟨rfl, rfl⟩
  case round =>
    obtain ⟨rfl, rfl⟩ := hrel
    go_wp2_with fail
    go_end0
    exact ⟨rfl, rfl⟩
theorem lookKnown_nil (w : World) (b : Nat) (n : Int) (l : Nat → Value) (h : BkP w b n l) (h0 : l 12 = .slice none 0 0) : Calls Tryz.prog 74 #[.pointer (some ⟨b, 0, none⟩)] w fun e w' => e = .returned (.bool true) ∧ w' = w := by
  have c := er_cellAt h.hb 12 _ rfl
  rw [h0] at c
  clear h h0
  go_enter Tryz.func74, Tryz.ntmps74
  go_wp2_with fail
  go_loopw [3] (fun iv wr => iv = .int .i64 0 ∧ wr = w) (fun _ _ => 0)
  case atStart => exact ⟨rfl, rfl⟩
  case round =>
    obtain ⟨rfl, rfl⟩ := hrel
    go_wp2_with fail
    go_ret
    exact ⟨rfl, rfl⟩
theorem fillVote_nil (w : World) (b : Nat) (n : Int) (l : Nat → Value) (h : BkP w b n l) (h0 : l 13 = .slice none 0 0) : Calls Tryz.prog 43 #[.pointer (some ⟨b, 0, none⟩)] w fun e w' => e = .returned (.tuple #[]) ∧ w' = w := by
  have c := er_cellAt h.hb 13 _ rfl
  rw [h0] at c
  clear h h0
  go_enter Tryz.func43, Tryz.ntmps43
  go_wp2_with fail
  go_loopw [2] (fun iv wr => iv = .int .i64 0 ∧ wr = w) (fun _ _ => 0)
  case atStart => exact ⟨rfl, rfl⟩
  case round =>
    obtain ⟨rfl, rfl⟩ := hrel
    go_wp2_with fail
    go_end0
    exact ⟨rfl, rfl⟩
theorem growVote_nil (w : World) (b : Nat) (n : Int) (l : Nat → Value) (h : BkP w b n l) (h0 : l 13 = .slice none 0 0) : Calls Tryz.prog 59 #[.pointer (some ⟨b, 0, none⟩)] w fun e w' => e = .returned (.tuple #[]) ∧ w' = w := by
  have c := er_cellAt h.hb 13 _ rfl
  rw [h0] at c
  clear h h0
  go_enter Tryz.func59, Tryz.ntmps59
  go_wp2_with fail
  go_loopw [2] (fun iv wr => iv = .int .i64 0 ∧ wr = w) (fun _ _ => 0)
  case atStart => exact ⟨rfl, rfl⟩
  case round =>
    obtain ⟨rfl, rfl⟩ := hrel
    go_wp2_with fail
    go_end0
    exact ⟨rfl, rfl⟩
theorem lookVote_nil (w : World) (b : Nat) (n : Int) (l : Nat → Value) (h : BkP w b n l) (h0 : l 13 = .slice none 0 0) : Calls Tryz.prog 75 #[.pointer (some ⟨b, 0, none⟩)] w fun e w' => e = .returned (.bool true) ∧ w' = w := by
  have c := er_cellAt h.hb 13 _ rfl
  rw [h0] at c
  clear h h0
  go_enter Tryz.func75, Tryz.ntmps75
  go_wp2_with fail
  go_loopw [3] (fun iv wr => iv = .int .i64 0 ∧ wr = w) (fun _ _ => 0)
  case atStart => exact ⟨rfl, rfl⟩
  case round =>
    obtain ⟨rfl, rfl⟩ := hrel
    go_wp2_with fail
    go_ret
    exact ⟨rfl, rfl⟩
theorem fillPart_nil (w : World) (b : Nat) (n : Int) (l : Nat → Value) (h : BkP w b n l) (h0 : l 14 = .slice none 0 0) : Calls Tryz.prog 44 #[.pointer (some ⟨b, 0, none⟩)] w fun e w' => e = .returned (.tuple #[]) ∧ w' = w := by
  have c := er_cellAt h.hb 14 _ rfl
  rw [h0] at c
  clear h h0
  go_enter Tryz.func44, Tryz.ntmps44
  go_wp2_with fail
  go_loopw [2] (fun iv wr => iv = .int .i64 0 ∧ wr = w) (fun _ _ => 0)
  case atStart => exact ⟨rfl, rfl⟩
  case round =>
    obtain ⟨rfl, rfl⟩ := hrel
    go_wp2_with fail
    go_end0
    exact ⟨rfl, rfl⟩
theorem growPart_nil (w : World) (b : Nat) (n : Int) (l : Nat → Value) (h : BkP w b n l) (h0 : l 14 = .slice none 0 0) : Calls Tryz.prog 60 #[.pointer (some ⟨b, 0, none⟩)] w fun e w' => e = .returned (.tuple #[]) ∧ w' = w := by
  have c := er_cellAt h.hb 14 _ rfl
  rw [h0] at c
  clear h h0
  go_enter Tryz.func60, Tryz.ntmps60
  go_wp2_with fail
  go_loopw [2] (fun iv wr => iv = .int .i64 0 ∧ wr = w) (fun _ _ => 0)
  case atStart => exact ⟨rfl, rfl⟩
  case round =>
    obtain ⟨rfl, rfl⟩ := hrel
    go_wp2_with fail
    go_end0
    exact ⟨rfl, rfl⟩
theorem lookPart_nil (w : World) (b : Nat) (n : Int) (l : Nat → Value) (h : BkP w b n l) (h0 : l 14 = .slice none 0 0) : Calls Tryz.prog 76 #[.pointer (some ⟨b, 0, none⟩)] w fun e w' => e = .returned (.bool true) ∧ w' = w := by
  have c := er_cellAt h.hb 14 _ rfl
  rw [h0] at c
  clear h h0
  go_enter Tryz.func76, Tryz.ntmps76
  go_wp2_with fail
  go_loopw [3] (fun iv wr => iv = .int .i64 0 ∧ wr = w) (fun _ _ => 0)
  case atStart => exact ⟨rfl, rfl⟩
  case round =>
    obtain ⟨rfl, rfl⟩ := hrel
    go_wp2_with fail
    go_ret
    exact ⟨rfl, rfl⟩
theorem fillHashList_nil (w : World) (b : Nat) (n : Int) (l : Nat → Value) (h : BkP w b n l) (h0 : l 15 = .slice none 0 0) : Calls Tryz.prog 45 #[.pointer (some ⟨b, 0, none⟩)] w fun e w' => e = .returned (.tuple #[]) ∧ w' = w := by
  have c := er_cellAt h.hb 15 _ rfl
  rw [h0] at c
  clear h h0
  go_enter Tryz.func45, Tryz.ntmps45
  go_wp2_with fail
  go_loopw [2] (fun iv wr => iv = .int .i64 0 ∧ wr = w) (fun _ _ => 0)
  case atStart => exact ⟨rfl, rfl⟩
  case round =>
    obtain ⟨rfl, rfl⟩ := hrel
    go_wp2_with fail
    go_end0
    exact ⟨rfl, rfl⟩
theorem growHashList_nil (w : World) (b : Nat) (n : Int) (l : Nat → Value) (h : BkP w b n l) (h0 : l 15 = .slice none 0 0) : Calls Tryz.prog 61 #[.pointer (some ⟨b, 0, none⟩)] w fun e w' => e = .returned (.tuple #[]) ∧ w' = w := by
  have c := er_cellAt h.hb 15 _ rfl
  rw [h0] at c
  clear h h0
  go_enter Tryz.func61, Tryz.ntmps61
  go_wp2_with fail
  go_loopw [2] (fun iv wr => iv = .int .i64 0 ∧ wr = w) (fun _ _ => 0)
  case atStart => exact ⟨rfl, rfl⟩
  case round =>
    obtain ⟨rfl, rfl⟩ := hrel
    go_wp2_with fail
    go_end0
    exact ⟨rfl, rfl⟩
theorem lookHashList_nil (w : World) (b : Nat) (n : Int) (l : Nat → Value) (h : BkP w b n l) (h0 : l 15 = .slice none 0 0) : Calls Tryz.prog 77 #[.pointer (some ⟨b, 0, none⟩)] w fun e w' => e = .returned (.bool true) ∧ w' = w := by
  have c := er_cellAt h.hb 15 _ rfl
  rw [h0] at c
  clear h h0
  go_enter Tryz.func77, Tryz.ntmps77
  go_wp2_with fail
  go_loopw [3] (fun iv wr => iv = .int .i64 0 ∧ wr = w) (fun _ _ => 0)
  case atStart => exact ⟨rfl, rfl⟩
  case round =>
    obtain ⟨rfl, rfl⟩ := hrel
    go_wp2_with fail
    go_ret
    exact ⟨rfl, rfl⟩
theorem fillQuery_nil (w : World) (b : Nat) (n : Int) (l : Nat → Value) (h : BkP w b n l) (h0 : l 16 = .slice none 0 0) : Calls Tryz.prog 46 #[.pointer (some ⟨b, 0, none⟩)] w fun e w' => e = .returned (.tuple #[]) ∧ w' = w := by
  have c := er_cellAt h.hb 16 _ rfl
  rw [h0] at c
  clear h h0
  go_enter Tryz.func46, Tryz.ntmps46
  go_wp2_with fail
  go_loopw [2] (fun iv wr => iv = .int .i64 0 ∧ wr = w) (fun _ _ => 0)
  case atStart => exact ⟨rfl, rfl⟩
  case round =>
    obtain ⟨rfl, rfl⟩ := hrel
    go_wp2_with fail
    go_end0
    exact ⟨rfl, rfl⟩
theorem growQuery_nil (w : World) (b : Nat) (n : Int) (l : Nat → Value) (h : BkP w b n l) (h0 : l 16 = .slice none 0 0) : Calls Tryz.prog 62 #[.pointer (some ⟨b, 0, none⟩)] w fun e w' => e = .returned (.tuple #[]) ∧ w' = w := by
  have c := er_cellAt h.hb 16 _ rfl
  rw [h0] at c
  clear h h0
  go_enter Tryz.func62, Tryz.ntmps62
  go_wp2_with fail
  go_loopw [2] (fun iv wr => iv = .int .i64 0 ∧ wr = w) (fun _ _ => 0)
  case atStart => exact ⟨rfl, rfl⟩
  case round =>
    obtain ⟨rfl, rfl⟩ := hrel
    go_wp2_with fail
    go_end0
    exact ⟨rfl, rfl⟩
theorem lookQuery_nil (w : World) (b : Nat) (n : Int) (l : Nat → Value) (h : BkP w b n l) (h0 : l 16 = .slice none 0 0) : Calls Tryz.prog 78 #[.pointer (some ⟨b, 0, none⟩)] w fun e w' => e = .returned (.bool true) ∧ w' = w := by
  have c := er_cellAt h.hb 16 _ rfl
  rw [h0] at c
  clear h h0
  go_enter Tryz.func78, Tryz.ntmps78
  go_wp2_with fail
  go_loopw [3] (fun iv wr => iv = .int .i64 0 ∧ wr = w) (fun _ _ => 0)
  case atStart => exact ⟨rfl, rfl⟩
  case round =>
    obtain ⟨rfl, rfl⟩ := hrel
    go_wp2_with fail
    go_ret
    exact ⟨rfl, rfl⟩
end Go.Proofs.YtgbafjmklefoiaaGreatDoor
