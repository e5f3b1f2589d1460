/- cartularylaw01.Book: fill, grow and look over a kind of which the book holds no list. cartularylaw01.Book: what all kinds of lists share: the book's own row of lists, rows of marks, a list and its longer one. cartularylaw01.Book over hashes: the mark, and whether it is there. cartularylaw01.Book, kind Hash: fill. cartularylaw01.Book, kind Hash: grow. cartularylaw01.Book, kind Hash: look. cartularylaw01.Book: keep of one kind of list. -/
import Derived.Test.YtbhcaalelfaceaaGreatDoorG3
import Derived.Test.YtbhcaalelfaceaaGreatDoorOwn9
import Derived.Test.YtbhcaalelfaceaaGreatDoorApw
import Derived.Test.YtbhcaalelfaceaaGreatDoorCaQ
import Derived.Laws.OwnMore
import Derived.Test.YtbhcaalelfaceaaGreatDoorVt
section
namespace Go.Proofs.YtbhcaalelfaceaaGreatDoor
set_option maxRecDepth 100000
open Go.RowKit
/-- a book in memory: how many lists it has numbered, and the lists by kind -/
structure BkP (w : World) (b : Nat) (n : Int) (l : Nat → Value) : Prop where
  hb : w.heap[b]? = some (.cells #[l 17, l 18, l 19, l 20, .int .i64 n, l 1, l 2, l 3, l 4, l 5, l 6, l 7, l 8, l 9, l 10, l 11, l 12, l 13, l 14, l 15, l 16] 47 (0, 0))
theorem BkP.below {w w' : World} {b : Nat} {n : Int} {l : Nat → Value} (h : BkP w b n l) (k : Below w.heap.size w w') : BkP w' b n l := ⟨(k.block b (Array.getElem?_eq_some_iff.1 h.hb).1).trans h.hb⟩
theorem fillInt_nil (w : World) (b : Nat) (n : Int) (l : Nat → Value) (h : BkP w b n l) (h0 : l 1 = .slice none 0 0) : Calls Tryz.prog 22 #[.pointer (some ⟨b, 4, none⟩)] w fun e w' => e = .returned (.tuple #[]) ∧ w' = w := by
  have c := er_cellAt h.hb 5 _ rfl
  rw [h0] at c
  clear h h0
  go_enter Tryz.func22, Tryz.ntmps22
  go_wp2_with fail
  go_loopw [2] (fun iv wr => iv = .int .i64 0 ∧ wr = w) (fun _ _ => 0)
  case atStart => exact ⟨rfl, rfl⟩
  case round =>
    obtain ⟨rfl, rfl⟩ := hrel
    go_wp2_with fail
    go_end0
    exact ⟨rfl, rfl⟩
theorem growInt_nil (w : World) (b : Nat) (n : Int) (l : Nat → Value) (h : BkP w b n l) (h0 : l 1 = .slice none 0 0) : Calls Tryz.prog 38 #[.pointer (some ⟨b, 4, none⟩)] w fun e w' => e = .returned (.tuple #[]) ∧ w' = w := by
  have c := er_cellAt h.hb 5 _ rfl
  rw [h0] at c
  clear h h0
  go_enter Tryz.func38, Tryz.ntmps38
  go_wp2_with fail
  go_loopw [2] (fun iv wr => iv = .int .i64 0 ∧ wr = w) (fun _ _ => 0)
  case atStart => exact ⟨rfl, rfl⟩
  case round =>
    obtain ⟨rfl, rfl⟩ := hrel
    go_wp2_with fail
    go_end0
    exact ⟨rfl, rfl⟩
theorem lookInt_nil (w : World) (b : Nat) (n : Int) (l : Nat → Value) (h : BkP w b n l) (h0 : l 1 = .slice none 0 0) : Calls Tryz.prog 54 #[.pointer (some ⟨b, 4, none⟩)] w fun e w' => e = .returned (.bool true) ∧ w' = w := by
  have c := er_cellAt h.hb 5 _ rfl
  rw [h0] at c
  clear h h0
  go_enter Tryz.func54, Tryz.ntmps54
  go_wp2_with fail
  go_loopw [3] (fun iv wr => iv = .int .i64 0 ∧ wr = w) (fun _ _ => 0)
  case atStart => exact ⟨rfl, rfl⟩
  case round =>
    obtain ⟨rfl, rfl⟩ := hrel
    go_wp2_with fail
    go_ret
    exact ⟨rfl, rfl⟩
theorem fillByte_nil (w : World) (b : Nat) (n : Int) (l : Nat → Value) (h : BkP w b n l) (h0 : l 2 = .slice none 0 0) : Calls Tryz.prog 23 #[.pointer (some ⟨b, 4, none⟩)] w fun e w' => e = .returned (.tuple #[]) ∧ w' = w := by
  have c := er_cellAt h.hb 6 _ rfl
  rw [h0] at c
  clear h h0
  go_enter Tryz.func23, Tryz.ntmps23
  go_wp2_with fail
  go_loopw [2] (fun iv wr => iv = .int .i64 0 ∧ wr = w) (fun _ _ => 0)
  case atStart => exact ⟨rfl, rfl⟩
  case round =>
    obtain ⟨rfl, rfl⟩ := hrel
    go_wp2_with fail
    go_end0
    exact ⟨rfl, rfl⟩
theorem growByte_nil (w : World) (b : Nat) (n : Int) (l : Nat → Value) (h : BkP w b n l) (h0 : l 2 = .slice none 0 0) : Calls Tryz.prog 39 #[.pointer (some ⟨b, 4, none⟩)] w fun e w' => e = .returned (.tuple #[]) ∧ w' = w := by
  have c := er_cellAt h.hb 6 _ rfl
  rw [h0] at c
  clear h h0
  go_enter Tryz.func39, Tryz.ntmps39
  go_wp2_with fail
  go_loopw [2] (fun iv wr => iv = .int .i64 0 ∧ wr = w) (fun _ _ => 0)
  case atStart => exact ⟨rfl, rfl⟩
  case round =>
    obtain ⟨rfl, rfl⟩ := hrel
    go_wp2_with fail
    go_end0
    exact ⟨rfl, rfl⟩
theorem lookByte_nil (w : World) (b : Nat) (n : Int) (l : Nat → Value) (h : BkP w b n l) (h0 : l 2 = .slice none 0 0) : Calls Tryz.prog 55 #[.pointer (some ⟨b, 4, none⟩)] w fun e w' => e = .returned (.bool true) ∧ w' = w := by
  have c := er_cellAt h.hb 6 _ rfl
  rw [h0] at c
  clear h h0
  go_enter Tryz.func55, Tryz.ntmps55
  go_wp2_with fail
  go_loopw [3] (fun iv wr => iv = .int .i64 0 ∧ wr = w) (fun _ _ => 0)
  case atStart => exact ⟨rfl, rfl⟩
  case round =>
    obtain ⟨rfl, rfl⟩ := hrel
    go_wp2_with fail
    go_ret
    exact ⟨rfl, rfl⟩
theorem fillText_nil (w : World) (b : Nat) (n : Int) (l : Nat → Value) (h : BkP w b n l) (h0 : l 3 = .slice none 0 0) : Calls Tryz.prog 24 #[.pointer (some ⟨b, 4, none⟩)] w fun e w' => e = .returned (.tuple #[]) ∧ w' = w := by
  have c := er_cellAt h.hb 7 _ rfl
  rw [h0] at c
  clear h h0
  go_enter Tryz.func24, Tryz.ntmps24
  go_wp2_with fail
  go_loopw [2] (fun iv wr => iv = .int .i64 0 ∧ wr = w) (fun _ _ => 0)
  case atStart => exact ⟨rfl, rfl⟩
  case round =>
    obtain ⟨rfl, rfl⟩ := hrel
    go_wp2_with fail
    go_end0
    exact ⟨rfl, rfl⟩
theorem growText_nil (w : World) (b : Nat) (n : Int) (l : Nat → Value) (h : BkP w b n l) (h0 : l 3 = .slice none 0 0) : Calls Tryz.prog 40 #[.pointer (some ⟨b, 4, none⟩)] w fun e w' => e = .returned (.tuple #[]) ∧ w' = w := by
  have c := er_cellAt h.hb 7 _ rfl
  rw [h0] at c
  clear h h0
  go_enter Tryz.func40, Tryz.ntmps40
  go_wp2_with fail
  go_loopw [2] (fun iv wr => iv = .int .i64 0 ∧ wr = w) (fun _ _ => 0)
  case atStart => exact ⟨rfl, rfl⟩
  case round =>
    obtain ⟨rfl, rfl⟩ := hrel
    go_wp2_with fail
    go_end0
    exact ⟨rfl, rfl⟩
theorem lookText_nil (w : World) (b : Nat) (n : Int) (l : Nat → Value) (h : BkP w b n l) (h0 : l 3 = .slice none 0 0) : Calls Tryz.prog 56 #[.pointer (some ⟨b, 4, none⟩)] w fun e w' => e = .returned (.bool true) ∧ w' = w := by
  have c := er_cellAt h.hb 7 _ rfl
  rw [h0] at c
  clear h h0
  go_enter Tryz.func56, Tryz.ntmps56
  go_wp2_with fail
  go_loopw [3] (fun iv wr => iv = .int .i64 0 ∧ wr = w) (fun _ _ => 0)
  case atStart => exact ⟨rfl, rfl⟩
  case round =>
    obtain ⟨rfl, rfl⟩ := hrel
    go_wp2_with fail
    go_ret
    exact ⟨rfl, rfl⟩
theorem fillNumber_nil (w : World) (b : Nat) (n : Int) (l : Nat → Value) (h : BkP w b n l) (h0 : l 4 = .slice none 0 0) : Calls Tryz.prog 25 #[.pointer (some ⟨b, 4, none⟩)] w fun e w' => e = .returned (.tuple #[]) ∧ w' = w := by
  have c := er_cellAt h.hb 8 _ rfl
  rw [h0] at c
  clear h h0
  go_enter Tryz.func25, Tryz.ntmps25
  go_wp2_with fail
  go_loopw [2] (fun iv wr => iv = .int .i64 0 ∧ wr = w) (fun _ _ => 0)
  case atStart => exact ⟨rfl, rfl⟩
  case round =>
    obtain ⟨rfl, rfl⟩ := hrel
    go_wp2_with fail
    go_end0
    exact ⟨rfl, rfl⟩
theorem growNumber_nil (w : World) (b : Nat) (n : Int) (l : Nat → Value) (h : BkP w b n l) (h0 : l 4 = .slice none 0 0) : Calls Tryz.prog 41 #[.pointer (some ⟨b, 4, none⟩)] w fun e w' => e = .returned (.tuple #[]) ∧ w' = w := by
  have c := er_cellAt h.hb 8 _ rfl
  rw [h0] at c
  clear h h0
  go_enter Tryz.func41, Tryz.ntmps41
  go_wp2_with fail
  go_loopw [2] (fun iv wr => iv = .int .i64 0 ∧ wr = w) (fun _ _ => 0)
  case atStart => exact ⟨rfl, rfl⟩
  case round =>
    obtain ⟨rfl, rfl⟩ := hrel
    go_wp2_with fail
    go_end0
    exact ⟨rfl, rfl⟩
theorem lookNumber_nil (w : World) (b : Nat) (n : Int) (l : Nat → Value) (h : BkP w b n l) (h0 : l 4 = .slice none 0 0) : Calls Tryz.prog 57 #[.pointer (some ⟨b, 4, none⟩)] w fun e w' => e = .returned (.bool true) ∧ w' = w := by
  have c := er_cellAt h.hb 8 _ rfl
  rw [h0] at c
  clear h h0
  go_enter Tryz.func57, Tryz.ntmps57
  go_wp2_with fail
  go_loopw [3] (fun iv wr => iv = .int .i64 0 ∧ wr = w) (fun _ _ => 0)
  case atStart => exact ⟨rfl, rfl⟩
  case round =>
    obtain ⟨rfl, rfl⟩ := hrel
    go_wp2_with fail
    go_ret
    exact ⟨rfl, rfl⟩
theorem fillHash_nil (w : World) (b : Nat) (n : Int) (l : Nat → Value) (h : BkP w b n l) (h0 : l 5 = .slice none 0 0) : Calls Tryz.prog 26 #[.pointer (some ⟨b, 4, none⟩)] w fun e w' => e = .returned (.tuple #[]) ∧ w' = w := by
  have c := er_cellAt h.hb 9 _ rfl
  rw [h0] at c
  clear h h0
  go_enter Tryz.func26, Tryz.ntmps26
  go_wp2_with fail
  go_loopw [2] (fun iv wr => iv = .int .i64 0 ∧ wr = w) (fun _ _ => 0)
  case atStart => exact ⟨rfl, rfl⟩
  case round =>
    obtain ⟨rfl, rfl⟩ := hrel
    go_wp2_with fail
    go_end0
    exact ⟨rfl, rfl⟩
theorem growHash_nil (w : World) (b : Nat) (n : Int) (l : Nat → Value) (h : BkP w b n l) (h0 : l 5 = .slice none 0 0) : Calls Tryz.prog 42 #[.pointer (some ⟨b, 4, none⟩)] w fun e w' => e = .returned (.tuple #[]) ∧ w' = w := by
  have c := er_cellAt h.hb 9 _ rfl
  rw [h0] at c
  clear h h0
  go_enter Tryz.func42, Tryz.ntmps42
  go_wp2_with fail
  go_loopw [2] (fun iv wr => iv = .int .i64 0 ∧ wr = w) (fun _ _ => 0)
  case atStart => exact ⟨rfl, rfl⟩
  case round =>
    obtain ⟨rfl, rfl⟩ := hrel
    go_wp2_with fail
    go_end0
    exact ⟨rfl, rfl⟩
theorem lookHash_nil (w : World) (b : Nat) (n : Int) (l : Nat → Value) (h : BkP w b n l) (h0 : l 5 = .slice none 0 0) : Calls Tryz.prog 58 #[.pointer (some ⟨b, 4, none⟩)] w fun e w' => e = .returned (.bool true) ∧ w' = w := by
  have c := er_cellAt h.hb 9 _ rfl
  rw [h0] at c
  clear h h0
  go_enter Tryz.func58, Tryz.ntmps58
  go_wp2_with fail
  go_loopw [3] (fun iv wr => iv = .int .i64 0 ∧ wr = w) (fun _ _ => 0)
  case atStart => exact ⟨rfl, rfl⟩
  case round =>
    obtain ⟨rfl, rfl⟩ := hrel
    go_wp2_with fail
    go_ret
    exact ⟨rfl, rfl⟩
theorem fillCoord_nil (w : World) (b : Nat) (n : Int) (l : Nat → Value) (h : BkP w b n l) (h0 : l 6 = .slice none 0 0) : Calls Tryz.prog 27 #[.pointer (some ⟨b, 4, none⟩)] w fun e w' => e = .returned (.tuple #[]) ∧ w' = w := by
  have c := er_cellAt h.hb 10 _ rfl
  rw [h0] at c
  clear h h0
  go_enter Tryz.func27, Tryz.ntmps27
  go_wp2_with fail
  go_loopw [2] (fun iv wr => iv = .int .i64 0 ∧ wr = w) (fun _ _ => 0)
  case atStart => exact ⟨rfl, rfl⟩
  case round =>
    obtain ⟨rfl, rfl⟩ := hrel
    go_wp2_with fail
    go_end0
    exact ⟨rfl, rfl⟩
theorem growCoord_nil (w : World) (b : Nat) (n : Int) (l : Nat → Value) (h : BkP w b n l) (h0 : l 6 = .slice none 0 0) : Calls Tryz.prog 43 #[.pointer (some ⟨b, 4, none⟩)] w fun e w' => e = .returned (.tuple #[]) ∧ w' = w := by
  have c := er_cellAt h.hb 10 _ rfl
  rw [h0] at c
  clear h h0
  go_enter Tryz.func43, Tryz.ntmps43
  go_wp2_with fail
  go_loopw [2] (fun iv wr => iv = .int .i64 0 ∧ wr = w) (fun _ _ => 0)
  case atStart => exact ⟨rfl, rfl⟩
  case round =>
    obtain ⟨rfl, rfl⟩ := hrel
    go_wp2_with fail
    go_end0
    exact ⟨rfl, rfl⟩
theorem lookCoord_nil (w : World) (b : Nat) (n : Int) (l : Nat → Value) (h : BkP w b n l) (h0 : l 6 = .slice none 0 0) : Calls Tryz.prog 59 #[.pointer (some ⟨b, 4, none⟩)] w fun e w' => e = .returned (.bool true) ∧ w' = w := by
  have c := er_cellAt h.hb 10 _ rfl
  rw [h0] at c
  clear h h0
  go_enter Tryz.func59, Tryz.ntmps59
  go_wp2_with fail
  go_loopw [3] (fun iv wr => iv = .int .i64 0 ∧ wr = w) (fun _ _ => 0)
  case atStart => exact ⟨rfl, rfl⟩
  case round =>
    obtain ⟨rfl, rfl⟩ := hrel
    go_wp2_with fail
    go_ret
    exact ⟨rfl, rfl⟩
theorem fillSpan_nil (w : World) (b : Nat) (n : Int) (l : Nat → Value) (h : BkP w b n l) (h0 : l 7 = .slice none 0 0) : Calls Tryz.prog 28 #[.pointer (some ⟨b, 4, none⟩)] w fun e w' => e = .returned (.tuple #[]) ∧ w' = w := by
  have c := er_cellAt h.hb 11 _ rfl
  rw [h0] at c
  clear h h0
  go_enter Tryz.func28, Tryz.ntmps28
  go_wp2_with fail
  go_loopw [2] (fun iv wr => iv = .int .i64 0 ∧ wr = w) (fun _ _ => 0)
  case atStart => exact ⟨rfl, rfl⟩
  case round =>
    obtain ⟨rfl, rfl⟩ := hrel
    go_wp2_with fail
    go_end0
    exact ⟨rfl, rfl⟩
theorem growSpan_nil (w : World) (b : Nat) (n : Int) (l : Nat → Value) (h : BkP w b n l) (h0 : l 7 = .slice none 0 0) : Calls Tryz.prog 44 #[.pointer (some ⟨b, 4, none⟩)] w fun e w' => e = .returned (.tuple #[]) ∧ w' = w := by
  have c := er_cellAt h.hb 11 _ rfl
  rw [h0] at c
  clear h h0
  go_enter Tryz.func44, Tryz.ntmps44
  go_wp2_with fail
  go_loopw [2] (fun iv wr => iv = .int .i64 0 ∧ wr = w) (fun _ _ => 0)
  case atStart => exact ⟨rfl, rfl⟩
  case round =>
    obtain ⟨rfl, rfl⟩ := hrel
    go_wp2_with fail
    go_end0
    exact ⟨rfl, rfl⟩
theorem lookSpan_nil (w : World) (b : Nat) (n : Int) (l : Nat → Value) (h : BkP w b n l) (h0 : l 7 = .slice none 0 0) : Calls Tryz.prog 60 #[.pointer (some ⟨b, 4, none⟩)] w fun e w' => e = .returned (.bool true) ∧ w' = w := by
  have c := er_cellAt h.hb 11 _ rfl
  rw [h0] at c
  clear h h0
  go_enter Tryz.func60, Tryz.ntmps60
  go_wp2_with fail
  go_loopw [3] (fun iv wr => iv = .int .i64 0 ∧ wr = w) (fun _ _ => 0)
  case atStart => exact ⟨rfl, rfl⟩
  case round =>
    obtain ⟨rfl, rfl⟩ := hrel
    go_wp2_with fail
    go_ret
    exact ⟨rfl, rfl⟩
theorem fillNode_nil (w : World) (b : Nat) (n : Int) (l : Nat → Value) (h : BkP w b n l) (h0 : l 8 = .slice none 0 0) : Calls Tryz.prog 29 #[.pointer (some ⟨b, 4, none⟩)] w fun e w' => e = .returned (.tuple #[]) ∧ w' = w := by
  have c := er_cellAt h.hb 12 _ rfl
  rw [h0] at c
  clear h h0
  go_enter Tryz.func29, Tryz.ntmps29
  go_wp2_with fail
  go_loopw [2] (fun iv wr => iv = .int .i64 0 ∧ wr = w) (fun _ _ => 0)
  case atStart => exact ⟨rfl, rfl⟩
  case round =>
    obtain ⟨rfl, rfl⟩ := hrel
    go_wp2_with fail
    go_end0
    exact ⟨rfl, rfl⟩
theorem growNode_nil (w : World) (b : Nat) (n : Int) (l : Nat → Value) (h : BkP w b n l) (h0 : l 8 = .slice none 0 0) : Calls Tryz.prog 45 #[.pointer (some ⟨b, 4, none⟩)] w fun e w' => e = .returned (.tuple #[]) ∧ w' = w := by
  have c := er_cellAt h.hb 12 _ rfl
  rw [h0] at c
  clear h h0
  go_enter Tryz.func45, Tryz.ntmps45
  go_wp2_with fail
  go_loopw [2] (fun iv wr => iv = .int .i64 0 ∧ wr = w) (fun _ _ => 0)
  case atStart => exact ⟨rfl, rfl⟩
  case round =>
    obtain ⟨rfl, rfl⟩ := hrel
    go_wp2_with fail
    go_end0
    exact ⟨rfl, rfl⟩
theorem lookNode_nil (w : World) (b : Nat) (n : Int) (l : Nat → Value) (h : BkP w b n l) (h0 : l 8 = .slice none 0 0) : Calls Tryz.prog 61 #[.pointer (some ⟨b, 4, none⟩)] w fun e w' => e = .returned (.bool true) ∧ w' = w := by
  have c := er_cellAt h.hb 12 _ rfl
  rw [h0] at c
  clear h h0
  go_enter Tryz.func61, Tryz.ntmps61
  go_wp2_with fail
  go_loopw [3] (fun iv wr => iv = .int .i64 0 ∧ wr = w) (fun _ _ => 0)
  case atStart => exact ⟨rfl, rfl⟩
  case round =>
    obtain ⟨rfl, rfl⟩ := hrel
    go_wp2_with fail
    go_ret
    exact ⟨rfl, rfl⟩
theorem fillTile_nil (w : World) (b : Nat) (n : Int) (l : Nat → Value) (h : BkP w b n l) (h0 : l 9 = .slice none 0 0) : Calls Tryz.prog 30 #[.pointer (some ⟨b, 4, none⟩)] w fun e w' => e = .returned (.tuple #[]) ∧ w' = w := by
  have c := er_cellAt h.hb 13 _ rfl
  rw [h0] at c
  clear h h0
  go_enter Tryz.func30, Tryz.ntmps30
  go_wp2_with fail
  go_loopw [2] (fun iv wr => iv = .int .i64 0 ∧ wr = w) (fun _ _ => 0)
  case atStart => exact ⟨rfl, rfl⟩
  case round =>
    obtain ⟨rfl, rfl⟩ := hrel
    go_wp2_with fail
    go_end0
    exact ⟨rfl, rfl⟩
theorem growTile_nil (w : World) (b : Nat) (n : Int) (l : Nat → Value) (h : BkP w b n l) (h0 : l 9 = .slice none 0 0) : Calls Tryz.prog 46 #[.pointer (some ⟨b, 4, none⟩)] w fun e w' => e = .returned (.tuple #[]) ∧ w' = w := by
  have c := er_cellAt h.hb 13 _ rfl
  rw [h0] at c
  clear h h0
  go_enter Tryz.func46, Tryz.ntmps46
  go_wp2_with fail
  go_loopw [2] (fun iv wr => iv = .int .i64 0 ∧ wr = w) (fun _ _ => 0)
  case atStart => exact ⟨rfl, rfl⟩
  case round =>
    obtain ⟨rfl, rfl⟩ := hrel
    go_wp2_with fail
    go_end0
    exact ⟨rfl, rfl⟩
theorem lookTile_nil (w : World) (b : Nat) (n : Int) (l : Nat → Value) (h : BkP w b n l) (h0 : l 9 = .slice none 0 0) : Calls Tryz.prog 62 #[.pointer (some ⟨b, 4, none⟩)] w fun e w' => e = .returned (.bool true) ∧ w' = w := by
  have c := er_cellAt h.hb 13 _ rfl
  rw [h0] at c
  clear h h0
  go_enter Tryz.func62, Tryz.ntmps62
  go_wp2_with fail
  go_loopw [3] (fun iv wr => iv = .int .i64 0 ∧ wr = w) (fun _ _ => 0)
  case atStart => exact ⟨rfl, rfl⟩
  case round =>
    obtain ⟨rfl, rfl⟩ := hrel
    go_wp2_with fail
    go_ret
    exact ⟨rfl, rfl⟩
theorem fillEntry_nil (w : World) (b : Nat) (n : Int) (l : Nat → Value) (h : BkP w b n l) (h0 : l 10 = .slice none 0 0) : Calls Tryz.prog 31 #[.pointer (some ⟨b, 4, none⟩)] w fun e w' => e = .returned (.tuple #[]) ∧ w' = w := by
  have c := er_cellAt h.hb 14 _ rfl
  rw [h0] at c
  clear h h0
  go_enter Tryz.func31, Tryz.ntmps31
  go_wp2_with fail
  go_loopw [2] (fun iv wr => iv = .int .i64 0 ∧ wr = w) (fun _ _ => 0)
  case atStart => exact ⟨rfl, rfl⟩
  case round =>
    obtain ⟨rfl, rfl⟩ := hrel
    go_wp2_with fail
    go_end0
    exact ⟨rfl, rfl⟩
theorem growEntry_nil (w : World) (b : Nat) (n : Int) (l : Nat → Value) (h : BkP w b n l) (h0 : l 10 = .slice none 0 0) : Calls Tryz.prog 47 #[.pointer (some ⟨b, 4, none⟩)] w fun e w' => e = .returned (.tuple #[]) ∧ w' = w := by
  have c := er_cellAt h.hb 14 _ rfl
  rw [h0] at c
  clear h h0
  go_enter Tryz.func47, Tryz.ntmps47
  go_wp2_with fail
  go_loopw [2] (fun iv wr => iv = .int .i64 0 ∧ wr = w) (fun _ _ => 0)
  case atStart => exact ⟨rfl, rfl⟩
  case round =>
    obtain ⟨rfl, rfl⟩ := hrel
    go_wp2_with fail
    go_end0
    exact ⟨rfl, rfl⟩
theorem lookEntry_nil (w : World) (b : Nat) (n : Int) (l : Nat → Value) (h : BkP w b n l) (h0 : l 10 = .slice none 0 0) : Calls Tryz.prog 63 #[.pointer (some ⟨b, 4, none⟩)] w fun e w' => e = .returned (.bool true) ∧ w' = w := by
  have c := er_cellAt h.hb 14 _ rfl
  rw [h0] at c
  clear h h0
  go_enter Tryz.func63, Tryz.ntmps63
  go_wp2_with fail
  go_loopw [3] (fun iv wr => iv = .int .i64 0 ∧ wr = w) (fun _ _ => 0)
  case atStart => exact ⟨rfl, rfl⟩
  case round =>
    obtain ⟨rfl, rfl⟩ := hrel
    go_wp2_with fail
    go_ret
    exact ⟨rfl, rfl⟩
theorem fillFound_nil (w : World) (b : Nat) (n : Int) (l : Nat → Value) (h : BkP w b n l) (h0 : l 11 = .slice none 0 0) : Calls Tryz.prog 32 #[.pointer (some ⟨b, 4, none⟩)] w fun e w' => e = .returned (.tuple #[]) ∧ w' = w := by
  have c := er_cellAt h.hb 15 _ rfl
  rw [h0] at c
  clear h h0
  go_enter Tryz.func32, Tryz.ntmps32
  go_wp2_with fail
  go_loopw [2] (fun iv wr => iv = .int .i64 0 ∧ wr = w) (fun _ _ => 0)
  case atStart => exact ⟨rfl, rfl⟩
  case round =>
    obtain ⟨rfl, rfl⟩ := hrel
    go_wp2_with fail
    go_end0
    exact ⟨rfl, rfl⟩
theorem growFound_nil (w : World) (b : Nat) (n : Int) (l : Nat → Value) (h : BkP w b n l) (h0 : l 11 = .slice none 0 0) : Calls Tryz.prog 48 #[.pointer (some ⟨b, 4, none⟩)] w fun e w' => e = .returned (.tuple #[]) ∧ w' = w := by
  have c := er_cellAt h.hb 15 _ rfl
  rw [h0] at c
  clear h h0
  go_enter Tryz.func48, Tryz.ntmps48
  go_wp2_with fail
  go_loopw [2] (fun iv wr => iv = .int .i64 0 ∧ wr = w) (fun _ _ => 0)
  case atStart => exact ⟨rfl, rfl⟩
  case round =>
    obtain ⟨rfl, rfl⟩ := hrel
    go_wp2_with fail
    go_end0
    exact ⟨rfl, rfl⟩
theorem lookFound_nil (w : World) (b : Nat) (n : Int) (l : Nat → Value) (h : BkP w b n l) (h0 : l 11 = .slice none 0 0) : Calls Tryz.prog 64 #[.pointer (some ⟨b, 4, none⟩)] w fun e w' => e = .returned (.bool true) ∧ w' = w := by
  have c := er_cellAt h.hb 15 _ rfl
  rw [h0] at c
  clear h h0
  go_enter Tryz.func64, Tryz.ntmps64
  go_wp2_with fail
  go_loopw [3] (fun iv wr => iv = .int .i64 0 ∧ wr = w) (fun _ _ => 0)
  case atStart => exact ⟨rfl, rfl⟩
  case round =>
    obtain ⟨rfl, rfl⟩ := hrel
    go_wp2_with fail
    go_ret
    exact ⟨rfl, rfl⟩
theorem fillKnown_nil (w : World) (b : Nat) (n : Int) (l : Nat → Value) (h : BkP w b n l) (h0 : l 12 = .slice none 0 0) : Calls Tryz.prog 33 #[.pointer (some ⟨b, 4, none⟩)] w fun e w' => e = .returned (.tuple #[]) ∧ w' = w := by
  have c := er_cellAt h.hb 16 _ rfl
  rw [h0] at c
  clear h h0
  go_enter Tryz.func33, Tryz.ntmps33
  go_wp2_with fail
  go_loopw [2] (fun iv wr => iv = .int .i64 0 ∧ wr = w) (fun _ _ => 0)
  case atStart => exact ⟨rfl, rfl⟩
  case round =>
    obtain ⟨rfl, rfl⟩ := hrel
    go_wp2_with fail
    go_end0
    exact ⟨rfl, rfl⟩
theorem growKnown_nil (w : World) (b : Nat) (n : Int) (l : Nat → Value) (h : BkP w b n l) (h0 : l 12 = .slice none 0 0) : Calls Tryz.prog 49 #[.pointer (some ⟨b, 4, none⟩)] w fun e w' => e = .returned (.tuple #[]) ∧ w' = w := by
  have c := er_cellAt h.hb 16 _ rfl
  rw [h0] at c
  clear h h0
  go_enter Tryz.func49, Tryz.ntmps49
  go_wp2_with fail
  go_loopw [2] (fun iv wr => iv = .int .i64 0 ∧ wr = w) (fun _ _ => 0)
  case atStart => exact ⟨rfl, rfl⟩
  case round =>
    obtain ⟨rfl, rfl⟩ := hrel
    go_wp2_with fail
    go_end0
    exact ⟨rfl, rfl⟩
theorem lookKnown_nil (w : World) (b : Nat) (n : Int) (l : Nat → Value) (h : BkP w b n l) (h0 : l 12 = .slice none 0 0) : Calls Tryz.prog 65 #[.pointer (some ⟨b, 4, none⟩)] w fun e w' => e = .returned (.bool true) ∧ w' = w := by
  have c := er_cellAt h.hb 16 _ rfl
  rw [h0] at c
  clear h h0
  go_enter Tryz.func65, Tryz.ntmps65
  go_wp2_with fail
  go_loopw [3] (fun iv wr => iv = .int .i64 0 ∧ wr = w) (fun _ _ => 0)
  case atStart => exact ⟨rfl, rfl⟩
  case round =>
    obtain ⟨rfl, rfl⟩ := hrel
    go_wp2_with fail
    go_ret
    exact ⟨rfl, rfl⟩
theorem fillVote_nil (w : World) (b : Nat) (n : Int) (l : Nat → Value) (h : BkP w b n l) (h0 : l 13 = .slice none 0 0) : Calls Tryz.prog 34 #[.pointer (some ⟨b, 4, none⟩)] w fun e w' => e = .returned (.tuple #[]) ∧ w' = w := by
  have c := er_cellAt h.hb 17 _ rfl
  rw [h0] at c
  clear h h0
  go_enter Tryz.func34, Tryz.ntmps34
  go_wp2_with fail
  go_loopw [2] (fun iv wr => iv = .int .i64 0 ∧ wr = w) (fun _ _ => 0)
  case atStart => exact ⟨rfl, rfl⟩
  case round =>
    obtain ⟨rfl, rfl⟩ := hrel
    go_wp2_with fail
    go_end0
    exact ⟨rfl, rfl⟩
theorem growVote_nil (w : World) (b : Nat) (n : Int) (l : Nat → Value) (h : BkP w b n l) (h0 : l 13 = .slice none 0 0) : Calls Tryz.prog 50 #[.pointer (some ⟨b, 4, none⟩)] w fun e w' => e = .returned (.tuple #[]) ∧ w' = w := by
  have c := er_cellAt h.hb 17 _ rfl
  rw [h0] at c
  clear h h0
  go_enter Tryz.func50, Tryz.ntmps50
  go_wp2_with fail
  go_loopw [2] (fun iv wr => iv = .int .i64 0 ∧ wr = w) (fun _ _ => 0)
  case atStart => exact ⟨rfl, rfl⟩
  case round =>
    obtain ⟨rfl, rfl⟩ := hrel
    go_wp2_with fail
    go_end0
    exact ⟨rfl, rfl⟩
theorem lookVote_nil (w : World) (b : Nat) (n : Int) (l : Nat → Value) (h : BkP w b n l) (h0 : l 13 = .slice none 0 0) : Calls Tryz.prog 66 #[.pointer (some ⟨b, 4, none⟩)] w fun e w' => e = .returned (.bool true) ∧ w' = w := by
  have c := er_cellAt h.hb 17 _ rfl
  rw [h0] at c
  clear h h0
  go_enter Tryz.func66, Tryz.ntmps66
  go_wp2_with fail
  go_loopw [3] (fun iv wr => iv = .int .i64 0 ∧ wr = w) (fun _ _ => 0)
  case atStart => exact ⟨rfl, rfl⟩
  case round =>
    obtain ⟨rfl, rfl⟩ := hrel
    go_wp2_with fail
    go_ret
    exact ⟨rfl, rfl⟩
theorem fillPart_nil (w : World) (b : Nat) (n : Int) (l : Nat → Value) (h : BkP w b n l) (h0 : l 14 = .slice none 0 0) : Calls Tryz.prog 35 #[.pointer (some ⟨b, 4, none⟩)] w fun e w' => e = .returned (.tuple #[]) ∧ w' = w := by
  have c := er_cellAt h.hb 18 _ rfl
  rw [h0] at c
  clear h h0
  go_enter Tryz.func35, Tryz.ntmps35
  go_wp2_with fail
  go_loopw [2] (fun iv wr => iv = .int .i64 0 ∧ wr = w) (fun _ _ => 0)
  case atStart => exact ⟨rfl, rfl⟩
  case round =>
    obtain ⟨rfl, rfl⟩ := hrel
    go_wp2_with fail
    go_end0
    exact ⟨rfl, rfl⟩
theorem growPart_nil (w : World) (b : Nat) (n : Int) (l : Nat → Value) (h : BkP w b n l) (h0 : l 14 = .slice none 0 0) : Calls Tryz.prog 51 #[.pointer (some ⟨b, 4, none⟩)] w fun e w' => e = .returned (.tuple #[]) ∧ w' = w := by
  have c := er_cellAt h.hb 18 _ rfl
  rw [h0] at c
  clear h h0
  go_enter Tryz.func51, Tryz.ntmps51
  go_wp2_with fail
  go_loopw [2] (fun iv wr => iv = .int .i64 0 ∧ wr = w) (fun _ _ => 0)
  case atStart => exact ⟨rfl, rfl⟩
  case round =>
    obtain ⟨rfl, rfl⟩ := hrel
    go_wp2_with fail
    go_end0
    exact ⟨rfl, rfl⟩
theorem lookPart_nil (w : World) (b : Nat) (n : Int) (l : Nat → Value) (h : BkP w b n l) (h0 : l 14 = .slice none 0 0) : Calls Tryz.prog 67 #[.pointer (some ⟨b, 4, none⟩)] w fun e w' => e = .returned (.bool true) ∧ w' = w := by
  have c := er_cellAt h.hb 18 _ rfl
  rw [h0] at c
  clear h h0
  go_enter Tryz.func67, Tryz.ntmps67
  go_wp2_with fail
  go_loopw [3] (fun iv wr => iv = .int .i64 0 ∧ wr = w) (fun _ _ => 0)
  case atStart => exact ⟨rfl, rfl⟩
  case round =>
    obtain ⟨rfl, rfl⟩ := hrel
    go_wp2_with fail
    go_ret
    exact ⟨rfl, rfl⟩
theorem fillHashList_nil (w : World) (b : Nat) (n : Int) (l : Nat → Value) (h : BkP w b n l) (h0 : l 15 = .slice none 0 0) : Calls Tryz.prog 36 #[.pointer (some ⟨b, 4, none⟩)] w fun e w' => e = .returned (.tuple #[]) ∧ w' = w := by
  have c := er_cellAt h.hb 19 _ rfl
  rw [h0] at c
  clear h h0
  go_enter Tryz.func36, Tryz.ntmps36
  go_wp2_with fail
  go_loopw [2] (fun iv wr => iv = .int .i64 0 ∧ wr = w) (fun _ _ => 0)
  case atStart => exact ⟨rfl, rfl⟩
  case round =>
    obtain ⟨rfl, rfl⟩ := hrel
    go_wp2_with fail
    go_end0
    exact ⟨rfl, rfl⟩
theorem growHashList_nil (w : World) (b : Nat) (n : Int) (l : Nat → Value) (h : BkP w b n l) (h0 : l 15 = .slice none 0 0) : Calls Tryz.prog 52 #[.pointer (some ⟨b, 4, none⟩)] w fun e w' => e = .returned (.tuple #[]) ∧ w' = w := by
  have c := er_cellAt h.hb 19 _ rfl
  rw [h0] at c
  clear h h0
  go_enter Tryz.func52, Tryz.ntmps52
  go_wp2_with fail
  go_loopw [2] (fun iv wr => iv = .int .i64 0 ∧ wr = w) (fun _ _ => 0)
  case atStart => exact ⟨rfl, rfl⟩
  case round =>
    obtain ⟨rfl, rfl⟩ := hrel
    go_wp2_with fail
    go_end0
    exact ⟨rfl, rfl⟩
theorem lookHashList_nil (w : World) (b : Nat) (n : Int) (l : Nat → Value) (h : BkP w b n l) (h0 : l 15 = .slice none 0 0) : Calls Tryz.prog 68 #[.pointer (some ⟨b, 4, none⟩)] w fun e w' => e = .returned (.bool true) ∧ w' = w := by
  have c := er_cellAt h.hb 19 _ rfl
  rw [h0] at c
  clear h h0
  go_enter Tryz.func68, Tryz.ntmps68
  go_wp2_with fail
  go_loopw [3] (fun iv wr => iv = .int .i64 0 ∧ wr = w) (fun _ _ => 0)
  case atStart => exact ⟨rfl, rfl⟩
  case round =>
    obtain ⟨rfl, rfl⟩ := hrel
    go_wp2_with fail
    go_ret
    exact ⟨rfl, rfl⟩
theorem fillQuery_nil (w : World) (b : Nat) (n : Int) (l : Nat → Value) (h : BkP w b n l) (h0 : l 16 = .slice none 0 0) : Calls Tryz.prog 37 #[.pointer (some ⟨b, 4, none⟩)] w fun e w' => e = .returned (.tuple #[]) ∧ w' = w := by
  have c := er_cellAt h.hb 20 _ rfl
  rw [h0] at c
  clear h h0
  go_enter Tryz.func37, Tryz.ntmps37
  go_wp2_with fail
  go_loopw [2] (fun iv wr => iv = .int .i64 0 ∧ wr = w) (fun _ _ => 0)
  case atStart => exact ⟨rfl, rfl⟩
  case round =>
    obtain ⟨rfl, rfl⟩ := hrel
    go_wp2_with fail
    go_end0
    exact ⟨rfl, rfl⟩
theorem growQuery_nil (w : World) (b : Nat) (n : Int) (l : Nat → Value) (h : BkP w b n l) (h0 : l 16 = .slice none 0 0) : Calls Tryz.prog 53 #[.pointer (some ⟨b, 4, none⟩)] w fun e w' => e = .returned (.tuple #[]) ∧ w' = w := by
  have c := er_cellAt h.hb 20 _ rfl
  rw [h0] at c
  clear h h0
  go_enter Tryz.func53, Tryz.ntmps53
  go_wp2_with fail
  go_loopw [2] (fun iv wr => iv = .int .i64 0 ∧ wr = w) (fun _ _ => 0)
  case atStart => exact ⟨rfl, rfl⟩
  case round =>
    obtain ⟨rfl, rfl⟩ := hrel
    go_wp2_with fail
    go_end0
    exact ⟨rfl, rfl⟩
theorem lookQuery_nil (w : World) (b : Nat) (n : Int) (l : Nat → Value) (h : BkP w b n l) (h0 : l 16 = .slice none 0 0) : Calls Tryz.prog 69 #[.pointer (some ⟨b, 4, none⟩)] w fun e w' => e = .returned (.bool true) ∧ w' = w := by
  have c := er_cellAt h.hb 20 _ rfl
  rw [h0] at c
  clear h h0
  go_enter Tryz.func69, Tryz.ntmps69
  go_wp2_with fail
  go_loopw [3] (fun iv wr => iv = .int .i64 0 ∧ wr = w) (fun _ _ => 0)
  case atStart => exact ⟨rfl, rfl⟩
  case round =>
    obtain ⟨rfl, rfl⟩ := hrel
    go_wp2_with fail
    go_ret
    exact ⟨rfl, rfl⟩
end Go.Proofs.YtbhcaalelfaceaaGreatDoor
end
section
namespace Go.Proofs.YtbhcaalelfaceaaGreatDoor
set_option maxRecDepth 100000
open Go.RowKit
def updK (l : Nat → Value) (j : Nat) (x : Value) : Nat → Value := fun i => if i = j then x else l i
def ownBK (b : Nat) (v : Value) (i j : Nat) : Nat → Option Nat := fun k => if k = b then some i else ownOf v j k
theorem ownBK_one (b : Nat) (v : Value) (i j : Nat) : ownBK b v i j b = some i := by unfold ownBK; rw [if_pos rfl]
theorem ownBK_two {b : Nat} {v : Value} {i j k : Nat} (h : v.ownBlock = some k) (hb : k ≠ b) : ownBK b v i j k = some j := by unfold ownBK; rw [if_neg hb, ownOf_at _ _ _ h]
theorem ownBK_none {b : Nat} {v : Value} {i j k : Nat} (h : v.ownBlock ≠ some k) (hb : k ≠ b) : ownBK b v i j k = none := by unfold ownBK; rw [if_neg hb, ownOf_not _ _ _ h]
theorem Since.keepBK {b : Nat} {v : Value} {i j : Nat} {own : Nat → Option Nat} {w0 w : World} (s : Since (ownBK b v i j) w0 own w) : Keep (fun k => k = b ∨ v.ownBlock = some k) w0 w :=
  ⟨s.os, s.tape, s.output, s.size, fun k hk hn => s.keep k hk (ownBK_none (fun e => hn (.inr e)) (fun e => hn (.inl e)))⟩
theorem grownW_setCellK {own : Nat → Option Nat} {w : World} {i j base : Nat} {e : TypeId} {size : Nat} {v : Value} {n : Nat} {xs : List Value} {v0 : Value} {B : Nat} (h : GrownW own w i base e size v n xs v0 B) (b o : Nat) (x : Value) (hb : own b = some j) (hj : j ≠ i) : GrownW own (w.setCell ⟨b, o, none⟩ x) i base e size v n xs v0 B := by
  refine ⟨⟨ownsRow_setCell_ne h.1.1 ⟨b, o, none⟩ x (fun k hk e => ?_), h.1.2⟩, h.2⟩
  have e' : k = b := e
  subst e'
  rcases h.1.2 k hk with h1 | h1
  · rw [hb] at h1; exact hj (Option.some.inj h1)
  · rw [hb] at h1; cases h1
theorem own_shapeK {w : World} {base : Nat} {e : TypeId} {size n : Nat} {v : Value} {xs : List Value} (h : w.ownsRow base e size v n xs) : ∃ a c, v = .slice a n c ∧ n ≤ c ∧ c ≤ maxLen ∧ True := by
  obtain ⟨hl, ⟨h0, h1⟩ | ⟨g, c, cur, e1, h1, h2, h3, h4, h5, h6⟩⟩ := h
  · exact ⟨none, 0, by rw [h0, h1], by omega, by simp, trivial⟩
  · exact ⟨_, c, e1, h3, h4, trivial⟩
theorem info_partsB {P : Program} {t : TypeId} {z : Value} {s b : Nat} (h : (P.info? t).map (fun i => (i.zero, i.size, i.bytes)) = some (some z, s, b)) : ∃ i, P.info? t = some i ∧ i.zero = some z ∧ i.size = s ∧ i.bytes = b := by
  cases hi : P.info? t with
  | none => simp [hi] at h
  | some i => simp [hi] at h; exact ⟨i, rfl, h.1, h.2.1, h.2.2⟩
def fillX (mk xs : List Value) (k : Nat) : List Value := (List.replicate k mk).flatten ++ xs.drop (k * mk.length)
theorem flat_rep (mk : List Value) (k : Nat) : (List.replicate k mk).flatten.length = k * mk.length := by
  induction k with
  | zero => simp
  | succ k ih => rw [List.replicate_succ, List.flatten_cons, List.length_append, ih, Nat.add_mul]; omega
theorem fillX_zero (mk xs : List Value) : fillX mk xs 0 = xs := by unfold fillX; simp
theorem fillX_step (mk xs : List Value) (k : Nat) (h : (k + 1) * mk.length ≤ xs.length) : setList (fillX mk xs k) (k * mk.length) mk = fillX mk xs (k + 1) := by
  unfold fillX
  have e1 := flat_rep mk k
  have e2 : xs.drop (k * mk.length) = (xs.drop (k * mk.length)).take mk.length ++ xs.drop ((k + 1) * mk.length) := by
    rw [show (k + 1) * mk.length = k * mk.length + mk.length by rw [Nat.add_mul]; omega, ← List.drop_drop, List.take_append_drop]
  rw [← e1, show (List.replicate k mk).flatten.length = (List.replicate k mk).flatten.length + 0 from rfl, setList_app]
  rw [show (List.replicate k mk).flatten.length + 0 = k * mk.length from e1, e2, setList_head _ _ _ (by rw [List.length_take, List.length_drop, Nat.min_eq_left]; rw [Nat.add_mul] at h; omega)]
  rw [show k + 1 = k + 1 from rfl, List.replicate_succ', List.flatten_append]
  simp
def hdRow (V G : Nat → Value) (Kn : Nat → Nat) (m : Nat) : List Value := (List.range m).flatMap fun i => [V i, G i, .int .i64 (Kn i : Int)]
theorem hdRow_get (V G : Nat → Value) (Kn : Nat → Nat) {m i o : Nat} (hi : i < m) (ho : o < 3) : (hdRow V G Kn m)[i * 3 + o]? = [V i, G i, .int .i64 (Kn i : Int)][o]? := by
  unfold hdRow
  rw [flat_get (fun i => [V i, G i, .int .i64 (Kn i : Int)]) 3 (List.range m) i o (by simpa using hi) (fun _ _ => rfl) ho]
  simp
/-- a book's lists of one kind (field J) in memory -/
structure BkL (J : Nat) (HT e : TypeId) (size : Nat) (base : Nat) (w : World) (b n : Nat) (l : Nat → Value) (m : Nat) (V : Nat → Value) (N : Nat → Nat) (X : Nat → List Value) (G : Nat → Value) (Kn : Nat → Nat) : Prop where
  bk : BkP w b (n : Int) l
  row : w.ownsRow base HT 3 (l J) m (hdRow V G Kn m)
  li : ∀ i, i < m → w.ownsRow base e size (V i) (N i) (X i)
  sep : ∀ i, i < m → ∀ j, j < m → i ≠ j → ∀ k, (V i).ownBlock = some k → (V j).ownBlock ≠ some k
  nb : ∀ i, i < m → ∀ k, (V i).ownBlock = some k → k ≠ b ∧ (l J).ownBlock ≠ some k
  gs : ∀ i, i < m → ∃ a n c, G i = .slice a n c
  ht : HT ≠ 47
section
variable {J : Nat} {HT e : TypeId} {size : Nat}
theorem BkL.turn {base : Nat} {w w' : World} {b n : Nat} {l : Nat → Value} {m : Nat} {V : Nat → Value} {N : Nat → Nat} {X Y : Nat → List Value} {G : Nat → Value} {Kn : Nat → Nat} (h : BkL J HT e size base w b n l m V N X G Kn) {t : Nat} (ht : t < m) (k : Keep (fun j => (V t).ownBlock = some j) w w')
    (hY : ∀ i, i ≠ t → Y i = X i) (hr : w'.ownsRow base e size (V t) (N t) (Y t)) : BkL J HT e size base w' b n l m V N Y G Kn :=
  ⟨⟨(k.block b (Array.getElem?_eq_some_iff.1 h.bk.hb).1 (fun e => (h.nb t ht b e).1 rfl)).trans h.bk.hb⟩, ownsRow_keep' h.row fun j hj => k.block j (ownsRow_lt h.row j hj) (fun e => (h.nb t ht j e).2 hj), fun i hi => by
    by_cases e : i = t
    · subst e; exact hr
    · rw [hY i e]; exact ownsRow_keep' (h.li i hi) fun j hj => k.block j (ownsRow_lt (h.li i hi) j hj) (fun e2 => h.sep i hi t ht e j hj e2), h.sep, h.nb, h.gs, h.ht⟩
theorem BkL.keep {base : Nat} {w w' : World} {b n n' : Nat} {l l' : Nat → Value} {m : Nat} {V : Nat → Value} {N : Nat → Nat} {X : Nat → List Value} {G : Nat → Value} {Kn : Nat → Nat} (h : BkL J HT e size base w b n l m V N X G Kn) {S : Nat → Prop} (k : Keep S w w') (hb : BkP w' b (n' : Int) l') (hl : l' J = l J)
    (h1 : ∀ j, (l J).ownBlock = some j → ¬ S j) (h2 : ∀ i, i < m → ∀ j, (V i).ownBlock = some j → ¬ S j) : BkL J HT e size base w' b n' l' m V N X G Kn :=
  ⟨hb, by rw [hl]; exact ownsRow_keep' h.row fun j hj => k.block j (ownsRow_lt h.row j hj) (h1 j hj), fun i hi => ownsRow_keep' (h.li i hi) fun j hj => k.block j (ownsRow_lt (h.li i hi) j hj) (h2 i hi j hj), h.sep, fun i hi j hj => by rw [hl]; exact h.nb i hi j hj, h.gs, h.ht⟩
theorem BkL.of {base : Nat} {w : World} {b n : Nat} {l : Nat → Value} {m : Nat} {V : Nat → Value} {N : Nat → Nat} {X Y : Nat → List Value} {G : Nat → Value} {Kn : Nat → Nat} (h : BkL J HT e size base w b n l m V N X G Kn) (hX : ∀ i, i < m → X i = Y i) : BkL J HT e size base w b n l m V N Y G Kn :=
  ⟨h.bk, h.row, fun i hi => by rw [← hX i hi]; exact h.li i hi, h.sep, h.nb, h.gs, h.ht⟩
end
theorem wrap_succB (t : Nat) (h : t < 9223372036854775807) : wrap64 ((t : Int) + 1) = ((t + 1 : Nat) : Int) := by unfold wrap64; omega
theorem hd_range {w : World} {base : Nat} {la : Option Addr} {lc m : Nat} {V G : Nat → Value} {Kn : Nat → Nat} {T : TypeId} (h : w.ownsRow base T 3 (.slice la m lc) m (hdRow V G Kn m)) {t : Nat} (ht : t < m) :
    ∃ g, la = some ⟨g, 0, none⟩ ∧ g < w.heap.size ∧ w.rangeAt g (t * 3) [V t, G t, .int .i64 (Kn t : Int)] := by
  rcases id h.2 with ⟨_, h0⟩ | ⟨g, c', cur, e1, _, hb, _⟩
  · omega
  · cases e1
    obtain ⟨cur2, hG⟩ := rowG_of h
    refine ⟨g, rfl, (Array.getElem?_eq_some_iff.1 hb).1, fun j v hv => ?_⟩
    have hj : j < 3 := by simpa using (List.getElem?_eq_some_iff.1 hv).1
    exact hG.cell (by rw [hdRow_get V G Kn ht hj, hv])
def marks (mk : List Value) (k : Nat) : List Value := (List.replicate k mk).flatten
theorem marks_succ (mk : List Value) (k : Nat) : marks mk (k + 1) = marks mk k ++ mk := by unfold marks; rw [List.replicate_succ', List.flatten_append]; simp
theorem marks_len (mk : List Value) (k : Nat) : (marks mk k).length = k * mk.length := flat_rep mk k
theorem marks_take (mk : List Value) (n k : Nat) : (marks mk (n + k)).take (n * mk.length) = marks mk n := by
  unfold marks
  rw [← List.replicate_append_replicate, List.flatten_append, ← flat_rep mk n, List.take_left]
theorem own_prefix {w : World} {base : Nat} {e : TypeId} {size g n k cap : Nat} {ys : List Value} (h : w.ownsRow base e size (.slice (some ⟨g, 0, none⟩) (n + k) cap) (n + k) ys) : w.ownsRow base e size (.slice (some ⟨g, 0, none⟩) n cap) n (ys.take (n * size)) := by
  obtain ⟨cur, hG⟩ := rowG_of h
  refine RowG.own (cur := cur) ⟨hG.hb, hG.bb, Nat.le_trans (Nat.le_add_right n k) hG.nc, hG.cm, hG.sz, ?_, ?_⟩
  · rw [← hG.tk, List.take_take, Nat.min_eq_left (by rw [Nat.add_mul]; omega)]
  · rw [List.length_take, hG.ln, Nat.min_eq_left (by rw [Nat.add_mul]; omega)]
structure LongP (w1 w : World) (base : Nat) (e : TypeId) (size : Nat) (v : Value) (n : Nat) (mk : List Value) (lv : Value) (k : Nat) : Prop where
  short : w.ownsRow base e size v n (marks mk n)
  long : w.ownsRow base e size lv (n + k) (marks mk (n + k))
  lies : (∃ g cap, v = .slice (some ⟨g, 0, none⟩) n cap ∧ lv = .slice (some ⟨g, 0, none⟩) (n + k) cap) ∨ (k = 0 ∧ lv = v) ∨ ∀ j, lv.ownBlock = some j → w1.heap.size ≤ j
  keep : Keep (fun j => v.ownBlock = some j) w1 w
theorem LongP.step {w1 w w' : World} {base : Nat} {e : TypeId} {size : Nat} {v : Value} {n : Nat} {mk : List Value} {lv lv' : Value} {k : Nat} (h : LongP w1 w base e size v n mk lv k) (hm : mk.length = size) (hv : ∀ j, v.ownBlock = some j → j < w1.heap.size)
    (ha : AppTwo w w' base e size lv (n + k) 1 (marks mk (n + k) ++ mk) lv') : LongP w1 w' base e size v n mk lv' (k + 1) := by
  obtain ⟨h1, h2⟩ := ha
  rw [← marks_succ] at h1
  rcases h2 with ⟨g, cap, e1, e2, hg⟩ | ⟨hg, hn⟩
  · have kg : Keep (fun j => j = g) w w' := ⟨hg.os, hg.tape, hg.output, hg.size, fun j hj hn => hg.block j hj (fun e => hn (Option.some.inj e))⟩
    have hin : (∃ cap', v = .slice (some ⟨g, 0, none⟩) n cap' ∧ cap' = cap ∧ True) ∨ w1.heap.size ≤ g := by
      rcases h.lies with ⟨g', c', f1, f2⟩ | f | f
      · rw [e1] at f2; cases f2; exact .inl ⟨_, f1, rfl, trivial⟩
      · obtain ⟨rfl, f⟩ := f
        exact .inl ⟨cap, by rw [← f, e1]; rfl, rfl, trivial⟩
      · exact .inr (f g (by rw [e1]; rfl))
    rcases hin with ⟨_, f1, rfl, _⟩ | hge
    · have hp := own_prefix (n := n) (k := k + 1) (by rw [e2] at h1; exact h1)
      rw [show n + k + 1 = n + (k + 1) from rfl, ← hm, marks_take, hm] at hp
      refine ⟨by rw [f1]; exact hp, h1, .inl ⟨g, _, f1, by rw [e2]; rfl⟩, h.keep.trans kg (fun j _ e => by rw [f1, e]; rfl)⟩
    · refine ⟨ownsRow_keep' h.short fun j hj => kg.block j (ownsRow_lt h.short j hj) (fun e => by have := hv j hj; omega), h1, .inr (.inr fun j hj => by rw [e2] at hj; cases hj; exact hge), ⟨kg.os.trans h.keep.os, kg.tape.trans h.keep.tape, kg.output.trans h.keep.output, Nat.le_trans h.keep.size kg.size, fun j hj hn => (kg.block j (Nat.lt_of_lt_of_le hj h.keep.size) (by omega)).trans (h.keep.block j hj hn)⟩⟩
  · have kg : Keep (fun _ => False) w w' := ⟨hg.os, hg.tape, hg.output, hg.size, fun j hj _ => hg.block j hj (by simp)⟩
    exact ⟨ownsRow_keep' h.short fun j hj => kg.block j (ownsRow_lt h.short j hj) (fun h => h), h1, .inr (.inr fun j hj => Nat.le_trans h.keep.size (hn j hj)), h.keep.trans kg (fun _ _ h => h.elim)⟩
def updG (G : Nat → Value) (t : Nat) (x : Value) : Nat → Value := fun i => if i = t then x else G i
theorem hdRow_set (V G : Nat → Value) (Kn : Nat → Nat) {m t : Nat} (ht : t < m) (x : Value) : (hdRow V G Kn m).set (t * 3 + 1) x = hdRow V (updG G t x) Kn m := by
  refine List.ext_getElem? fun j => ?_
  have hl : ∀ G, (hdRow V G Kn m).length = m * 3 := fun G => by unfold hdRow; rw [flat_len _ 3 _ (fun _ _ => rfl)]; simp
  by_cases hj : j < m * 3
  · have e : j = j / 3 * 3 + j % 3 := by omega
    have h1 : j / 3 < m := by omega
    have h2 : j % 3 < 3 := by omega
    rw [List.getElem?_set, hl]
    by_cases he : t * 3 + 1 = j
    · have e1 : j / 3 = t := by omega
      have e2 : j % 3 = 1 := by omega
      rw [if_pos he, if_pos (by omega), e, hdRow_get V _ Kn h1 h2, e1, e2]
      simp [updG]
    · rw [if_neg he, e, hdRow_get V _ Kn h1 h2, hdRow_get V _ Kn h1 h2]
      unfold updG
      by_cases e1 : j / 3 = t
      · rw [if_pos e1]
        rcases (show j % 3 = 0 ∨ j % 3 = 2 by omega) with e2 | e2 <;> rw [e2] <;> rfl
      · rw [if_neg e1]
  · rw [List.getElem?_eq_none (by rw [List.length_set, hl]; omega), List.getElem?_eq_none (by rw [hl]; omega)]
theorem LongP.below {w1 w w' : World} {base : Nat} {e : TypeId} {size : Nat} {v : Value} {n : Nat} {mk : List Value} {lv : Value} {k : Nat} (h : LongP w1 w base e size v n mk lv k) (b : Below w.heap.size w w') : LongP w1 w' base e size v n mk lv k :=
  ⟨ownsRow_keep' h.short fun j hj => b.block j (ownsRow_lt h.short j hj), ownsRow_keep' h.long fun j hj => b.block j (ownsRow_lt h.long j hj), h.lies, h.keep.trans (Keep.of_below b (fun j => v.ownBlock = some j)) (fun _ _ h => h)⟩
section
variable {J : Nat} {HT e : TypeId} {size : Nat}
/-- the book's own block is not that of its row -/
theorem BkL.nr {base : Nat} {w : World} {b n : Nat} {l : Nat → Value} {m : Nat} {V : Nat → Value} {N : Nat → Nat} {X : Nat → List Value} {G : Nat → Value} {Kn : Nat → Nat} (h : BkL J HT e size base w b n l m V N X G Kn) : (l J).ownBlock ≠ some b := by
  intro e
  rcases h.row.2 with ⟨h0, _⟩ | ⟨g, c, cur, e1, _, h2, _⟩
  · rw [h0] at e; cases e
  · rw [e1] at e
    have eg : g = b := by simpa [Value.ownBlock] using e
    rw [eg, h.bk.hb] at h2
    injection h2 with h2
    injection h2 with _ h2
    exact h.ht h2.symm
/-- one list's longer one laid down -/
theorem BkL.lay {base : Nat} {w : World} {b n : Nat} {l : Nat → Value} {m : Nat} {V : Nat → Value} {N : Nat → Nat} {X : Nat → List Value} {G : Nat → Value} {Kn : Nat → Nat} (h : BkL J HT e size base w b n l m V N X G Kn) {gl lc : Nat} (hs : l J = .slice (some ⟨gl, 0, none⟩) m lc) {t : Nat} (ht : t < m) {a : Option Addr} {k c : Nat} :
    BkL J HT e size base (w.setCell ⟨gl, t * 3 + 1, none⟩ (.slice a k c)) b n l m V N X (updG G t (.slice a k c)) Kn := by
  have hne : b ≠ gl := fun e => h.nr (by rw [hs, e]; rfl)
  have hr := h.row
  rw [hs] at hr
  obtain ⟨cur, hG⟩ := rowG_of hr
  have h2 := (hG.setW (t * 3 + 1) (.slice a k c)).own
  rw [hdRow_set V G Kn ht] at h2
  refine ⟨⟨by rw [← h.bk.hb]; simp [World.setCell, Array.getElem?_modify, Ne.symm hne]⟩, by rw [hs]; exact h2, fun i hi => ownsRow_setCell_ne (h.li i hi) _ _ (fun j hj e => (h.nb i hi j hj).2 (by rw [hs, e]; rfl)), h.sep, h.nb, fun i hi => ?_, h.ht⟩
  unfold updG
  split
  · exact ⟨_, _, _, rfl⟩
  · exact h.gs i hi
end
theorem quiet_load_midB {P : Program} {C : World → Prop} {o : Oper} {a : Act} {K : Act → Prop} (ty : TypeId) (x : Operand) (ho : o.op = .load ty x)
    (g q : Nat) (hx : a.eval x = .pointer (some ⟨g, q, none⟩)) (cs : List Value) (d : TypeDesc) (hg : ∀ w, C w → w.rangeAt g q cs)
    (hu : P.underlying ty = some d) (hd : d.isRow = true) (hi : (P.info? ty).map (·.size) = some cs.length)
    (h : K (a.put o.dst (.agg cs.toArray))) : o.quiet P a C K := by
  refine ⟨.agg cs.toArray, fun w hw => ?_, h⟩
  unfold Oper.quietAt execOp
  simp only [ho, hx, Instr.loadAt, Instr.sureAddr, Sem.run_bind, Sem.run_pure, Result.andThen_ok, run_loadVar_mid w g q ty cs d (hg w hw) hu hd hi, Oper.quietUpon]
  exact ⟨trivial, trivial⟩
theorem marks_get (mk : List Value) {n k o : Nat} (hk : k < n) (ho : o < mk.length) : (marks mk n)[k * mk.length + o]? = mk[o]? := by
  have h := flat_get (fun x : List Value => x) mk.length (List.replicate n mk) k o (by simpa using hk) (fun x hx => by rw [(List.mem_replicate.1 hx).2]) ho
  have e : (List.replicate n mk).flatMap (fun x => x) = marks mk n := by unfold marks; exact List.flatMap_id'
  rw [e] at h
  rw [h]
  simp
theorem own_mark {w : World} {base : Nat} {e : TypeId} {size n c : Nat} {a : Option Addr} {mk : List Value} (h : w.ownsRow base e size (.slice a n c) n (marks mk n)) (hm : mk.length = size) {k : Nat} (hk : k < n) :
    ∃ g, a = some ⟨g, 0, none⟩ ∧ g < w.heap.size ∧ w.rangeAt g (k * size) mk := by
  rcases id h.2 with ⟨_, h0⟩ | ⟨g, c', cur, e1, _, hb, _⟩
  · omega
  · cases e1
    obtain ⟨cur2, hG⟩ := rowG_of h
    refine ⟨g, rfl, (Array.getElem?_eq_some_iff.1 hb).1, fun j v hv => ?_⟩
    have hj : j < mk.length := (List.getElem?_eq_some_iff.1 hv).1
    exact hG.cell (by rw [← hm, marks_get mk hk hj, hv])
theorem ownsRow_ge {w : World} {base : Nat} {e : TypeId} {size : Nat} {v : Value} {n : Nat} {xs : List Value} (h : w.ownsRow base e size v n xs) (j : Nat) (hj : v.ownBlock = some j) : base ≤ j := by
  rcases h.2 with ⟨rfl, _⟩ | ⟨g, cap, cur, rfl, hb, _⟩
  · cases hj
  · obtain rfl : g = j := by simpa [Value.ownBlock] using hj
    exact hb
/-- a row of marks in place of what was filled -/
theorem fillX_marks (mk xs : List Value) (k : Nat) (h : xs.length = k * mk.length) : fillX mk xs k = marks mk k := by
  unfold fillX marks
  rw [List.drop_eq_nil_of_le (by rw [h]; exact Nat.le_refl _), List.append_nil]
theorem setCells_one (w : World) (g o : Nat) (v : Value) : w.setCells g o [v] = w.setCell ⟨g, o, none⟩ v := by
  simp [World.setCells]
end Go.Proofs.YtbhcaalelfaceaaGreatDoor
end
section
namespace Go.Proofs.YtbhcaalelfaceaaGreatDoor
set_option maxRecDepth 100000
open Go.RowKit
/-- the mark's bytes -/
def mkHB (n : Nat) : List UInt8 := [UInt8.ofNat n, UInt8.ofNat (n / 256), UInt8.ofNat (n / 65536), 0, 0, 0, 0, 0, 0, 0, 0, 0, 0, 0, 0, 0, 0, 0, 0, 0, 0, 0, 0, 0, 0, 0, 0, 0, 0, 0, 0, 201]
def mkHash (n : Nat) : Array Value := ocells (mkHB n)
theorem mkHB_len (n : Nat) : (mkHB n).length = 32 := rfl
theorem mkHash_len (n : Nat) : (mkHash n).toList.length = 32 := rfl
theorem mkHash_one (n : Nat) : (mkHash n).all (·.oneCell') = true := ocells_one _
theorem wrap8_of (n : Nat) : IntKind.u8.wrap (n : Int) = ((UInt8.ofNat n).toNat : Int) := by
  simp [IntKind.wrap, IntKind.bits, IntKind.signed]
theorem built_mkHash (a b c : Int) : Tryz.prog.built 66 [(0, .int .u8 a), (1, .int .u8 b), (2, .int .u8 c), (31, .int .u8 201)] = some #[.int .u8 a, .int .u8 b, .int .u8 c, .int .u8 0, .int .u8 0, .int .u8 0, .int .u8 0, .int .u8 0, .int .u8 0, .int .u8 0, .int .u8 0, .int .u8 0, .int .u8 0, .int .u8 0, .int .u8 0, .int .u8 0, .int .u8 0, .int .u8 0, .int .u8 0, .int .u8 0, .int .u8 0, .int .u8 0, .int .u8 0, .int .u8 0, .int .u8 0, .int .u8 0, .int .u8 0, .int .u8 0, .int .u8 0, .int .u8 0, .int .u8 0, .int .u8 201] := by kernel_rfl
theorem built_mkH (n : Nat) : Tryz.prog.built 66 [(0, .int .u8 ((UInt8.ofNat n).toNat : Int)), (1, .int .u8 ((UInt8.ofNat (n / 256)).toNat : Int)), (2, .int .u8 ((UInt8.ofNat (n / 65536)).toNat : Int)), (31, .int .u8 201)] = some (mkHash n) := by
  rw [built_mkHash]
  rfl
theorem byte1 (n : Nat) (hn : n ≤ 100000000) : wrap64 ((n : Int) / 256) % 256 = ((UInt8.ofNat (n / 256)).toNat : Int) := by
  have h : wrap64 ((n : Int) / 256) = ((n / 256 : Nat) : Int) := by unfold wrap64; omega
  rw [h]
  simp
theorem byte2 (n : Nat) (hn : n ≤ 100000000) : wrap64 ((n : Int) / 65536) % 256 = ((UInt8.ofNat (n / 65536)).toNat : Int) := by
  have h : wrap64 ((n : Int) / 65536) = ((n / 65536 : Nat) : Int) := by unfold wrap64; omega
  rw [h]
  simp
theorem mkHash_parts (n : Nat) (hn : n ≤ 100000000) : ∃ c0 : Int, IntKind.u8.wrap (n : Int) = c0 ∧ Tryz.prog.built 66 [(0, .int .u8 c0), (1, .int .u8 (wrap64 ((n : Int) / 256) % 256)), (2, .int .u8 (wrap64 ((n : Int) / 65536) % 256)), (31, .int .u8 201)] = some (mkHash n) :=
  ⟨_, wrap8_of n, by rw [byte1 n hn, byte2 n hn]; exact built_mkH n⟩
set_option maxHeartbeats 1600000 in
theorem markHash_any (w : World) (n : Nat) (hn : n ≤ 100000000) : Calls Tryz.prog 74 #[.int .i64 (n : Int)] w fun e w' => e = .returned (.agg (mkHash n)) ∧ Below w.heap.size w w' := by
  obtain ⟨c0, e0, hb⟩ := mkHash_parts n hn
  have HB := Bx.mk hb
  clear hb hn
  obtain ⟨MK, hMK⟩ : ∃ MK, MK = mkHash n := ⟨_, rfl⟩
  have SZ : Bx ((Tryz.prog.info? 66).map (·.size) = some MK.size) := ⟨by rw [hMK]; exact hszL (mkHB_len n)⟩
  have ONE : Bx (MK.all (·.oneCell') = true) := ⟨by rw [hMK]; exact mkHash_one n⟩
  rw [← hMK] at HB ⊢
  clear hMK
  go_enter Tryz.func74, Tryz.ntmps74
  go_upto_region 1 with (fail)
  change Code.wp _ _ _ _ (w.alloc (.cells zeros32 66))
  obtain ⟨Z, hZ⟩ : ∃ Z : Array Value, Z = zeros32 := ⟨_, rfl⟩
  rw [← hZ]
  have ZS : Bx (Z.size = MK.size) := ⟨by rw [hZ]; have h := SZ.out; rw [sizeH] at h; exact Option.some.inj h⟩
  clear hZ
  go_wp2_with (first
    | (guard_target =~ wpList _ _ _ (⟨some 11, _, _, _, _, _⟩ :: _) _ _; refine wpList_build_c (by simp [Region.wanted]) 66 #[(0, .tmp 4), (1, .tmp 7), (2, .tmp 10), (31, .const (.int .u8 201))] rfl MK (by simp only [List.map_toArray, List.map_cons, List.map_nil]; exact HB.out) ?_)
    | (guard_target =~ wpList _ _ _ (⟨none, _, _, _, _, _⟩ :: _) _ _; refine wpList_store_row rfl 66 (.tmp 2) (.tmp 11) rfl w.heap.size MK rfl rfl _ Z (heap_alloc_new _ _) SZ.out ZS.out ONE.out ?_; rw [setRow_alloc_new _ _ _ _ _ rfl]))
  refine bodyPost_ret (results_cell_row rfl _ _ w.heap.size _ MK _ _ rfl (heap_alloc_new _ _) underH rfl SZ.out) rfl ⟨rfl, er_al (Below.refl _ _) _⟩
set_option maxHeartbeats 1600000 in
theorem isHash_any (w : World) (n : Nat) (hn : n ≤ 100000000) : Calls Tryz.prog 80 #[.agg (mkHash n), .int .i64 (n : Int)] w fun e w' => e = .returned (.bool true) ∧ Below w.heap.size w w' := by
  obtain ⟨c0, e0, hb⟩ := mkHash_parts n hn
  have HB := Bx.mk hb
  clear hb hn
  have q : ∀ u, (binOp .eql 66 (.agg (mkHash n)) (.agg (mkHash n))).run Tryz.prog u = .ok (.bool true) u := fun u => by
    have h := hv_eq u (mkHB n) (mkHB n) (mkHB_len n) (mkHB_len n)
    rw [beq_self_eq_true] at h
    exact h
  obtain ⟨MK, hMK⟩ : ∃ MK, MK = mkHash n := ⟨_, rfl⟩
  have SZ : Bx ((Tryz.prog.info? 66).map (·.size) = some MK.size) := ⟨by rw [hMK]; exact hszL (mkHB_len n)⟩
  rw [← hMK] at HB q ⊢
  clear hMK
  have xN := heap_alloc_new w (.cells MK 66)
  have kb := er_al (Below.refl w.heap.size w) (.cells MK 66)
  go_enter Tryz.func80, Tryz.ntmps80
  go_upto_region 1 with (fail)
  change Code.wp _ _ _ _ (w.alloc (.cells MK 66))
  generalize w.alloc (.cells MK 66) = W at xN kb ⊢
  obtain ⟨N, hN⟩ : ∃ N, N = w.heap.size := ⟨_, rfl⟩
  rw [← hN] at xN ⊢
  have XN := Bx.mk xN; have KB := Bx.mk kb
  clear xN kb hN
  go_wp2_with (first
    | (guard_target =~ wpList _ _ _ (⟨some 5, _, _, _, _, _⟩ :: _) _ _; refine wpList_load_row rfl 66 (.tmp 2) rfl N rfl _ _ _ _ XN.out underH rfl SZ.out ?_)
    | (guard_target =~ wpList _ _ _ (⟨some 14, _, _, _, _, _⟩ :: _) _ _; refine wpList_build_c (by simp [Region.wanted]) 66 #[(0, .tmp 7), (1, .tmp 10), (2, .tmp 13), (31, .const (.int .u8 201))] rfl MK (by simp only [List.map_toArray, List.map_cons, List.map_nil]; exact HB.out) ?_))
  go_ret
  exact ⟨rfl, KB.out⟩
end Go.Proofs.YtbhcaalelfaceaaGreatDoor
end
section
namespace Go.Proofs.YtbhcaalelfaceaaGreatDoor
set_option maxRecDepth 100000
open Go.RowKit
theorem mkHashL (n : Nat) : (mkHash n).toList.length = 32 := mkHash_len n
theorem mkHashS (n : Nat) : (Tryz.prog.info? 66).map (·.size) = some (mkHash n).size := by rw [show (mkHash n).size = 32 from (Array.length_toList ..).symm.trans (mkHash_len n)]; kernel_rfl
theorem mkHashA (n : Nat) : (mkHash n).all (·.oneCell') = true := mkHash_one n
theorem mkHashE (n : Nat) : ∀ u ∈ (mkHash n).toList, u.oneCell' = true := fun u hu => by
  have h := mkHashA n
  rw [Array.all_eq_true_iff_forall_mem] at h
  exact h u (by simpa using hu)
set_option maxHeartbeats 3200000 in
theorem fillHash_any (base : Nat) (w : World) (b n : Nat) (l : Nat → Value) (m : Nat) (V : Nat → Value) (N : Nat → Nat) (X : Nat → List Value) (G : Nat → Value) (Kn : Nat → Nat) (h : BkL 5 114 66 32 base w b n l m V N X G Kn) (hbase : base ≤ w.heap.size) (hm : m ≤ 100000000) (hN : ∀ i, i < m → N i ≤ 100000000 ∧ Kn i ≤ 100000000) :
    Calls Tryz.prog 26 #[.pointer (some ⟨b, 4, none⟩)] w fun e w' => e = .returned (.tuple #[]) ∧ BkL 5 114 66 32 base w' b n l m V N (fun i => fillX (mkHash (Kn i)).toList (X i) (N i)) G Kn ∧ Keep (fun k => ∃ i, i < m ∧ (V i).ownBlock = some k) w w' := by
  have HH := Bx.mk h; have MB := Bx.mk hm; have NB := Bx.mk hN; have HBS := Bx.mk hbase
  clear h hm hN hbase
  go_enter Tryz.func26, Tryz.ntmps26
  go_wp2_with fail
  go_loopw [2] (fun iv wr => ∃ t : Nat, t ≤ m ∧ iv = .int .i64 (t : Int) ∧ BkL 5 114 66 32 base wr b n l m V N (fun i => if i < t then fillX (mkHash (Kn i)).toList (X i) (N i) else X i) G Kn ∧ Keep (fun k => ∃ i, i < m ∧ (V i).ownBlock = some k) w wr) (fun iv _ => m - (intOf iv).toNat)
  case atStart => exact ⟨0, Nat.zero_le _, rfl, (by simpa using HH.out), Keep.refl _ _⟩
  case round =>
    obtain ⟨t, ht, rfl, hB, hk⟩ := hrel
    obtain ⟨wo, rfl⟩ : ∃ wo, wo = wr := ⟨_, rfl⟩
    have BB := Bx.mk hB; have KK := Bx.mk hk
    obtain ⟨la, lc, hs, -, -, -⟩ := own_shapeK hB.row
    have HS := Bx.mk hs
    have cJ : wo.cell? ⟨b, 9, none⟩ = some (.slice la m lc) := by rw [← hs]; exact er_cellAt hB.bk.hb 9 _ rfl
    clear hB hk hs
    by_cases hlt : t < m
    · have hro := BB.out.row
      rw [HS.out] at hro
      obtain ⟨gl, rfl, hgl, hrg⟩ := hd_range hro hlt
      obtain ⟨va, vc, hv, -, -, -⟩ := own_shapeK (BB.out.li t hlt)
      obtain ⟨nt, hnt⟩ : ∃ nt, nt = N t := ⟨_, rfl⟩
      obtain ⟨kt, hkt⟩ : ∃ kt, kt = Kn t := ⟨_, rfl⟩
      obtain ⟨ga, gn, gc, hg⟩ : ∃ ga gn gc, G t = .slice ga gn gc := BB.out.gs t hlt
      rw [hv, hg, ← hnt, ← hkt] at hrg
      have RG := Bx.mk hrg; have TL := Bx.mk hlt; have HV := Bx.mk hv; have HNT := Bx.mk hnt; have HKT := Bx.mk hkt
      have f1 : (t : Int) < (m : Int) := by omega
      clear hro hgl hrg hv hnt hkt hg hlt ht
      go_wp2_with (first
        | (guard_target =~ wpList _ _ _ (⟨some 20, _, _, _, _, _⟩ :: _) _ _; refine wpList_load_mid rfl 114 (.tmp 19) rfl gl (t * 3) rfl _ _ RG.out Tryz.underlying114 rfl (by kernel_rfl) ?_)
        | (guard_target =~ wpList _ _ _ (⟨none, _, _, _, _, _⟩ :: _) _ _; refine wpList_store_row rfl 114 (.tmp 3) (.tmp 20) rfl wo.heap.size #[.slice va nt vc, .slice ga gn gc, .int .i64 (kt : Int)] rfl rfl _ #[.slice none 0 0, .slice none 0 0, .int .i64 0] (heap_alloc_new _ _) (by kernel_rfl) rfl (by simp [Value.oneCell']) ?_; rw [setRow_alloc_new _ _ _ _ rfl]))
      have h1 := er_al (Below.refl wo.heap.size wo) (.cells #[.slice va nt vc, .slice ga gn gc, .int .i64 (kt : Int)] 114)
      have h2 := heap_alloc_new wo (.cells #[.slice va nt vc, .slice ga gn gc, .int .i64 (kt : Int)] 114)
      generalize wo.alloc (.cells #[.slice va nt vc, .slice ga gn gc, .int .i64 (kt : Int)] 114) = W1 at h1 h2 ⊢
      obtain ⟨H, hH⟩ : ∃ H, H = wo.heap.size := ⟨_, rfl⟩
      rw [← hH] at h2 ⊢
      obtain ⟨x0, hx0⟩ : ∃ x0, x0 = X t := ⟨_, rfl⟩
      obtain ⟨MK, hMK⟩ : ∃ MK, MK = (mkHash kt).toList := ⟨_, rfl⟩
      have MKL : Bx (MK.length = 32) := ⟨by rw [hMK]; exact mkHashL kt⟩
      have ho : W1.ownsRow base 66 32 (.slice va nt vc) nt (fillX MK x0 0) := by
        have h := BB.out.li t TL.out
        simp only [Nat.lt_irrefl, if_false] at h
        rw [HV.out, ← HNT.out, ← hx0] at h
        rw [fillX_zero]
        exact ownsRow_keep' h fun j hj => h1.block j (ownsRow_lt h j hj)
      have OLT := Bx.mk (show ∀ j, (Value.slice va nt vc).ownBlock = some j → j < H from fun j hj => by
        have h := BB.out.li t TL.out
        rw [HV.out, ← HNT.out] at h
        rw [hH]; exact ownsRow_lt h j hj)
      have K1 := Bx.mk h1; have H1 := Bx.mk h2; have HH2 := Bx.mk hH; have HX0 := Bx.mk hx0; have HMK := Bx.mk hMK; have O1 := Bx.mk ho
      have NT := Bx.mk (show nt ≤ 100000000 ∧ kt ≤ 100000000 by rw [HNT.out, HKT.out]; exact NB.out t TL.out)
      clear h1 h2 hH hx0 hMK ho cJ f1
      go_loopw [4] (fun kv wq => ∃ k : Nat, k ≤ nt ∧ kv = .int .i64 (k : Int) ∧ wq.ownsRow base 66 32 (.slice va nt vc) nt (fillX MK x0 k) ∧ wq.heap[H]? = some (.cells #[.slice va nt vc, .slice ga gn gc, .int .i64 (kt : Int)] 114 (0, 0)) ∧ Keep (fun j => (Value.slice va nt vc).ownBlock = some j) W1 wq) (fun kv _ => nt - (intOf kv).toNat)
      case atStart => exact ⟨0, Nat.zero_le _, rfl, O1.out, H1.out, Keep.refl _ _⟩
      case round =>
        obtain ⟨k, hk, rfl, ho, hh, hkp⟩ := hrel
        have OQ := Bx.mk ho; have HQ := Bx.mk hh; have KQ := Bx.mk hkp
        have c0 := er_cellAt hh 0 _ rfl
        clear ho hkp
        by_cases hlt : k < nt
        · obtain ⟨g, rfl⟩ : ∃ g, va = some ⟨g, 0, none⟩ := by
            rcases id OQ.out.2 with ⟨_, h0⟩ | ⟨g, c', cur, e1, _⟩
            · omega
            · cases e1; exact ⟨g, rfl⟩
          obtain ⟨cur, hG⟩ := rowG_of OQ.out
          have c2 := er_cellAt hh 2 _ rfl
          have d0 : ∀ u : Blw wr.heap.size wr, u.w.cell? ⟨H, 0, none⟩ = some (.slice (some ⟨g, 0, none⟩) nt vc) := fun u => (u.h.cell (p := ⟨H, 0, none⟩) (Array.getElem?_eq_some_iff.1 hh).1).trans c0
          have d2 : ∀ u : Blw wr.heap.size wr, u.w.cell? ⟨H, 2, none⟩ = some (.int .i64 (kt : Int)) := fun u => (u.h.cell (p := ⟨H, 2, none⟩) (Array.getElem?_eq_some_iff.1 hh).1).trans c2
          have ne := Blw.ne wr.heap.size wr
          have CM : Bx (∀ u, Below wr.heap.size wr u → Calls Tryz.prog 74 #[.int .i64 (kt : Int)] u fun e w' => e = .returned (.agg (mkHash kt)) ∧ Below u.heap.size u w') := ⟨fun u _ => markHash_any u kt NT.out.2⟩
          have RG2 := Bx.mk hG; have KL := Bx.mk hlt
          have f1 : (k : Int) < (nt : Int) := by omega
          have HL := Bx.mk (Array.getElem?_eq_some_iff.1 hh).1
          clear hG hlt hk hh
          go_upto_region 7 with (fail)
          refine wp_region_quiet_tail (C := fun w' => ∃ u : Blw wr.heap.size wr, w' = u.w) 7 (by kernel_rfl) (by kernel_rfl) ⟨⟨_, (Below.refl _ _).drew⟩, rfl⟩ ?_
          simp only [List.take_succ_cons, List.take_zero, List.drop_succ_cons, List.drop_zero]
          iterate 5 go_big_quiet_step (fail)
          go_big_quiet_step (exact Calls.blw (Nat.le_refl _) CM.out)
          go_big_quiet_step (fail)
          refine wpQuiet_nil ?_
          rintro _ ⟨u, rfl⟩
          have hG5 := RG2.out.kept (u.h.block g (Array.getElem?_eq_some_iff.1 RG2.out.hb).1)
          have hrm := hG5.there (o := k * 32) (m := 32) (by have := KL.out; omega)
          obtain ⟨cur2, hG6⟩ := hG5.setCells (mkHash kt).toList (k * 32)
          have hxl : x0.length = nt * 32 := by have h := O1.out.1; rw [fillX_zero] at h; exact h
          have hst := fillX_step MK x0 k (by rw [MKL.out, hxl]; have := KL.out; omega)
          rw [MKL.out] at hst
          have OWN := Bx.mk (show (u.w.setCells g (k * 32) (mkHash kt).toList).ownsRow base 66 32 (.slice (some ⟨g, 0, none⟩) nt vc) nt (fillX MK x0 (k + 1)) by rw [← hst, HMK.out]; have h := hG6.own; rw [HMK.out] at h; exact h)
          have KS := keep_setCells g (mkHash kt).toList (k * 32) u.w
          have gH : g < H := OLT.out g rfl
          have HX := Bx.mk (show (u.w.setCells g (k * 32) (mkHash kt).toList).heap[H]? = _ from (KS.block H (Nat.lt_of_lt_of_le HL.out u.h.size) (by omega)).trans ((u.h.block H HL.out).trans HQ.out))
          have KP := Bx.mk (KQ.out.trans ((Keep.of_below u.h (fun j => (Value.slice (some ⟨g, 0, none⟩) nt vc).ownBlock = some j)).trans (KS.mono (S' := fun j => (Value.slice (some ⟨g, 0, none⟩) nt vc).ownBlock = some j) (fun j _ hj => by subst hj; rfl)) (fun _ _ h => h)) (fun _ _ h => h))
          have RM := Bx.mk hrm
          clear hG5 hrm hG6 hxl hst KS gH d0 d2 c0 c2 ne f1
          go_wp2_with (guard_target =~ wpList _ _ _ (⟨none, _, _, _, _, _⟩ :: _) _ _; refine wpList_store_mid rfl 66 (.tmp 34) (.tmp 33) rfl g (k * 32) (mkHash kt) rfl rfl RM.out (mkHashS kt) (mkHashA kt) ?_)
          go_roundw
          case rel => exact ⟨k + 1, KL.out, (by rw [wrap_succB k (by have := KL.out; have := NT.out.1; omega)]), OWN.out, HX.out, KP.out⟩
          case measure => rw [wrap_succB k (by have := KL.out; have := NT.out.1; omega)]; have := KL.out; simp [intOf]; omega
        · have KE := Bx.mk (show k = nt by omega)
          have f1 : ¬ (k : Int) < (nt : Int) := by omega
          clear hlt hk hh
          go_wp2_with fail
          go_roundw
          case rel => exact ⟨t + 1, TL.out, (by rw [wrap_succB t (by have := TL.out; have := MB.out; omega)]), BB.out.turn TL.out (by rw [HV.out, ← HNT.out]; exact (Keep.of_below K1.out (fun j => (Value.slice va nt vc).ownBlock = some j)).trans KQ.out (fun _ _ h => h)) (fun i e => by
              have : (i < t + 1) = (i < t) := by rw [eq_iff_iff]; omega
              simp only [this]) (by
              simp only [Nat.lt_succ_self, if_true]
              have h := OQ.out
              rw [KE.out, HX0.out, HMK.out, HKT.out] at h
              rw [HV.out, ← HNT.out]; exact h), KK.out.trans (((Keep.of_below K1.out (fun j => (Value.slice va nt vc).ownBlock = some j)).trans KQ.out (fun _ _ h => h)).mono (S' := fun k => ∃ i, i < m ∧ (V i).ownBlock = some k) (fun j _ hj => ⟨t, TL.out, by rw [HV.out, ← HNT.out]; exact hj⟩)) (fun _ _ h => h)⟩
          case measure => rw [wrap_succB t (by have := TL.out; have := MB.out; omega)]; have := TL.out; simp [intOf]; omega
    · obtain rfl : t = m := by omega
      clear ht hlt
      go_wp2_with fail
      go_end0
      exact ⟨rfl, ⟨BB.out.bk, BB.out.row, fun i hi => by have h := BB.out.li i hi; simpa [hi] using h, BB.out.sep, BB.out.nb, BB.out.gs, BB.out.ht⟩, KK.out⟩
end Go.Proofs.YtbhcaalelfaceaaGreatDoor
end
section
namespace Go.Proofs.YtbhcaalelfaceaaGreatDoor
set_option maxRecDepth 100000
open Go.RowKit
theorem bs_mkHash (w : World) (n : Nat) : (Instr.buildSlice 51 1 #[(0, .agg (mkHash n))]).run Tryz.prog w = .ok (.slice (some ⟨w.heap.size, 0, none⟩) 1 1) (w.alloc (.cells (mkHash n) 66)) := by kernel_rfl
theorem run_bs_mkHash {o : Oper} {a : Act} (w : World) (x : Operand) (ho : o.op = .buildSlice 51 1 #[(0, x)]) (n : Nat) (hx : a.eval x = .agg (mkHash n)) :
    (execOp a.eval o).run Tryz.prog w = .ok (.value (.slice (some ⟨w.heap.size, 0, none⟩) 1 1)) (w.alloc (.cells (mkHash n) 66)) := by
  have hr := bs_mkHash w n
  unfold execOp
  simp only [ho, List.map_toArray, List.map_cons, List.map_nil, hx, Sem.run_bind, hr, Result.andThen_ok, Sem.run_pure]
theorem info_mkHashB : (Tryz.prog.info? 66).map (fun i => (i.zero, i.size, i.bytes)) = some (some (.agg zeros32), 32, 32) := by kernel_rfl
set_option maxHeartbeats 3200000 in
theorem growHash_any (base : Nat) (w : World) (b n : Nat) (l : Nat → Value) (m : Nat) (V : Nat → Value) (N : Nat → Nat) (G : Nat → Value) (Kn : Nat → Nat) (h : BkL 5 114 66 32 base w b n l m V N (fun i => marks (mkHash (Kn i)).toList (N i)) G Kn) (hbase : base ≤ w.heap.size) (hm : m ≤ 100000000) (hN : ∀ i, i < m → N i ≤ 100000000 ∧ Kn i ≤ 100000000) :
    Calls Tryz.prog 42 #[.pointer (some ⟨b, 4, none⟩)] w fun e w' => e = .returned (.tuple #[]) ∧ ∃ G', BkL 5 114 66 32 base w' b n l m V N (fun i => marks (mkHash (Kn i)).toList (N i)) G' Kn ∧ (∀ i, i < m → w'.ownsRow base 66 32 (G' i) (N i + 70) (marks (mkHash (Kn i)).toList (N i + 70)) ∧ ∀ k, (G' i).ownBlock = some k → (V i).ownBlock = some k ∨ w.heap.size ≤ k) ∧ Keep (fun k => (∃ i, i < m ∧ (V i).ownBlock = some k) ∨ (l 5).ownBlock = some k) w w' := by
  have HH := Bx.mk h; have MB := Bx.mk hm; have NB := Bx.mk hN; have HBS := Bx.mk hbase
  have VL := Bx.mk (fun i (hi : i < m) j (hj : (V i).ownBlock = some j) => ownsRow_lt (h.li i hi) j hj)
  have LL := Bx.mk (fun j (hj : (l 5).ownBlock = some j) => ownsRow_lt h.row j hj)
  clear h hm hN hbase
  go_enter Tryz.func42, Tryz.ntmps42
  go_wp2_with fail
  go_loopw [2] (fun iv wr => ∃ (t : Nat) (G' : Nat → Value), t ≤ m ∧ iv = .int .i64 (t : Int) ∧ BkL 5 114 66 32 base wr b n l m V N (fun i => marks (mkHash (Kn i)).toList (N i)) G' Kn ∧ (∀ i, i < t → wr.ownsRow base 66 32 (G' i) (N i + 70) (marks (mkHash (Kn i)).toList (N i + 70)) ∧ ∀ k, (G' i).ownBlock = some k → (V i).ownBlock = some k ∨ w.heap.size ≤ k) ∧ Keep (fun k => (∃ i, i < m ∧ (V i).ownBlock = some k) ∨ (l 5).ownBlock = some k) w wr) (fun iv _ => m - (intOf iv).toNat)
  case atStart => exact ⟨0, G, Nat.zero_le _, rfl, HH.out, (fun i hi => absurd hi (Nat.not_lt_zero _)), Keep.refl _ _⟩
  case round =>
    obtain ⟨t, G', ht, rfl, hB, hg, hk⟩ := hrel
    obtain ⟨wo, rfl⟩ : ∃ wo, wo = wr := ⟨_, rfl⟩
    have BB := Bx.mk hB; have KK := Bx.mk hk; have GG := Bx.mk hg
    obtain ⟨la, lc, hs, -, -, -⟩ := own_shapeK hB.row
    have HS := Bx.mk hs
    have cJ : wo.cell? ⟨b, 9, none⟩ = some (.slice la m lc) := by rw [← hs]; exact er_cellAt hB.bk.hb 9 _ rfl
    clear hB hk hs hg
    by_cases hlt : t < m
    · have hro := BB.out.row
      rw [HS.out] at hro
      obtain ⟨gl, rfl, hgl, hrg⟩ := hd_range hro hlt
      obtain ⟨va, vc, hv, -, -, -⟩ := own_shapeK (BB.out.li t hlt)
      obtain ⟨nt, hnt⟩ : ∃ nt, nt = N t := ⟨_, rfl⟩
      obtain ⟨kt, hkt⟩ : ∃ kt, kt = Kn t := ⟨_, rfl⟩
      obtain ⟨ga, gn, gc, hg⟩ : ∃ ga gn gc, G' t = .slice ga gn gc := BB.out.gs t hlt
      rw [hv, hg, ← hnt, ← hkt] at hrg
      have RG := Bx.mk hrg; have TL := Bx.mk hlt; have HV := Bx.mk hv; have HNT := Bx.mk hnt; have HKT := Bx.mk hkt
      have f1 : (t : Int) < (m : Int) := by omega
      clear hro hgl hrg hv hnt hkt hg hlt ht
      go_upto_region 4 with (first
        | (guard_target =~ wpList _ _ _ (⟨some 21, _, _, _, _, _⟩ :: _) _ _; refine wpList_load_mid rfl 114 (.tmp 20) rfl gl (t * 3) rfl _ _ RG.out Tryz.underlying114 rfl (by kernel_rfl) ?_)
        | (guard_target =~ wpList _ _ _ (⟨none, _, _, _, _, _⟩ :: _) _ _; refine wpList_store_row rfl 114 (.tmp 3) (.tmp 21) rfl wo.heap.size #[.slice va nt vc, .slice ga gn gc, .int .i64 (kt : Int)] rfl rfl _ #[.slice none 0 0, .slice none 0 0, .int .i64 0] (heap_alloc_new _ _) (by kernel_rfl) rfl (by simp [Value.oneCell']) ?_; rw [setRow_alloc_new _ _ _ _ rfl]))
      have h1 := er_al (Below.refl wo.heap.size wo) (.cells #[.slice va nt vc, .slice ga gn gc, .int .i64 (kt : Int)] 114)
      have h2 := heap_alloc_new wo (.cells #[.slice va nt vc, .slice ga gn gc, .int .i64 (kt : Int)] 114)
      generalize wo.alloc (.cells #[.slice va nt vc, .slice ga gn gc, .int .i64 (kt : Int)] 114) = W1 at h1 h2 ⊢
      obtain ⟨H, hH⟩ : ∃ H, H = wo.heap.size := ⟨_, rfl⟩
      rw [← hH] at h2 ⊢
      have K1 := Bx.mk h1
      have H1 := Bx.mk h2
      have HH2 := Bx.mk hH
      have e0 := er_cellAt h2 0 _ rfl
      clear h1 h2 hH cJ f1
      go_wp2_with fail
      obtain ⟨MK, hMK⟩ : ∃ MK, MK = (mkHash kt).toList := ⟨_, rfl⟩
      have MKL : Bx (MK.length = 32) := ⟨by rw [hMK]; exact mkHashL kt⟩
      have HMK := Bx.mk hMK
      have ho : LongP W1 W1 base 66 32 (.slice va nt vc) nt MK (.slice va nt vc) 0 := by
        have h := BB.out.li t TL.out
        rw [HV.out, ← HNT.out, ← HKT.out, ← hMK] at h
        have h3 := ownsRow_keep' h fun j hj => K1.out.block j (ownsRow_lt h j hj)
        exact ⟨h3, h3, .inr (.inl ⟨rfl, rfl⟩), Keep.refl _ _⟩
      have O1 := Bx.mk ho
      have NT := Bx.mk (show nt ≤ 100000000 ∧ kt ≤ 100000000 by rw [HNT.out, HKT.out]; exact NB.out t TL.out)
      have OLT := Bx.mk (show ∀ j, (Value.slice va nt vc).ownBlock = some j → j < H from fun j hj => by
        have h := BB.out.li t TL.out
        rw [HV.out, ← HNT.out] at h
        rw [HH2.out]; exact ownsRow_lt h j hj)
      clear hMK ho e0
      go_loopw [4, 5] (fun lv kv wq => ∃ k : Nat, k ≤ 70 ∧ kv = .int .i64 (k : Int) ∧ LongP W1 wq base 66 32 (.slice va nt vc) nt MK lv k) (fun _ kv _ => 70 - (intOf kv).toNat)
      case atStart => exact ⟨0, by decide, rfl, O1.out⟩
      case round =>
        obtain ⟨k, hk, rfl, hL⟩ := hrel
        obtain ⟨a4, c4, rfl, -, -, -⟩ := own_shapeK hL.long
        have LP := Bx.mk hL
        have hh := (hL.keep.block H (Array.getElem?_eq_some_iff.1 H1.out).1 (fun e => by have := OLT.out H e; omega)).trans H1.out
        have c2 := er_cellAt hh 2 _ rfl
        clear hL hh
        by_cases hlt : k < 70
        · have KL := Bx.mk hlt
          have f1 : (k : Int) < 70 := by omega
          clear hlt hk
          go_wp2_with fail
          refine (markHash_any wr kt NT.out.2).mono ?_
          rintro e wq ⟨rfl, hb⟩
          have LA := Bx.mk ((LP.out.below hb).below (er_al (Below.refl wq.heap.size wq) (.cells (mkHash kt) 66)))
          have NEWS : Bx (∀ j u, MK[j]? = some u → (wq.alloc (.cells (mkHash kt) 66)).cell? ((⟨wq.heap.size, 0, none⟩ : Addr).add j) = some u) := ⟨fun j u hu => by
            rw [HMK.out, Array.getElem?_toList] at hu
            have := er_cellAt (heap_alloc_new wq (.cells (mkHash kt) 66)) j u hu
            rw [Addr.add_mid, Nat.zero_add]
            exact this⟩
          have ONE : Bx (∀ u ∈ MK, u.oneCell' = true) := ⟨by rw [HMK.out]; exact mkHashE kt⟩
          obtain ⟨i0, ri1, ri2, ri3, ri4⟩ := info_partsB info_mkHashB
          have RI := Bx.mk (And.intro ri1 (And.intro ri2 (And.intro ri3 ri4)))
          have BQ := Bx.mk (show base ≤ (wq.alloc (.cells (mkHash kt) 66)).heap.size by have h1 := HBS.out; have h2 := KK.out.size; have h3 := K1.out.size; have h4 := LP.out.keep.size; have h5 := hb.size; simp; omega)
          clear hb ri1 ri2 ri3 ri4 c2 f1
          go_wp2_with (first | (guard_target =~ wpList _ _ _ (⟨some 32, _, _, _, _, _⟩ :: _) _ _; refine wpList_run_c (by simp [Region.wanted]) _ (run_bs_mkHash wq (.tmp 31) rfl kt rfl) ?_) | (at_builtin; refine wpList_append_apw _ rfl _ _ 51 rfl base 66 i0 (.agg zeros32) 32 32 Tryz.underlying51 RI.out.1 RI.out.2.1 RI.out.2.2.1 RI.out.2.2.2 rfl (by decide) (.slice a4 (nt + k) c4) (nt + k) (marks MK (nt + k)) rfl LA.out.long ⟨wq.heap.size, 0, none⟩ 1 1 MK rfl MKL.out NEWS.out ONE.out (by have := NT.out.1; have := KL.out; unfold maxLen; omega) (by have := NT.out.1; have := KL.out; omega) BQ.out ?_; intro lv2 w2 happ; have APP := Bx.mk happ; clear happ))
          go_roundw
          case rel => exact ⟨k + 1, KL.out, (by rw [wrap_succB k (by have := KL.out; omega)]), LA.out.step MKL.out (fun j hj => Nat.lt_of_lt_of_le (OLT.out j hj) (by have := K1.out.size; have := HH2.out; omega)) APP.out⟩
          case measure => rw [wrap_succB k (by have := KL.out; omega)]; have := KL.out; simp [intOf]; omega
        · have KE : k = 70 := by omega
          have f1 : ¬ (k : Int) < 70 := by omega
          have f2 : (t : Int) < (m : Int) := by have := TL.out; omega
          have kp : Keep (fun j => (V t).ownBlock = some j) wo wr := by rw [HV.out, ← HNT.out]; exact (Keep.of_below K1.out (fun j => (Value.slice va nt vc).ownBlock = some j)).trans LP.out.keep (fun _ _ h => h)
          have hB5 : BkL 5 114 66 32 base wr b n l m V N (fun i => marks (mkHash (Kn i)).toList (N i)) G' Kn := BB.out.turn TL.out kp (fun _ _ => rfl) (by
            have h := LP.out.short
            rw [HMK.out, HKT.out] at h
            rw [HV.out, ← HNT.out]; exact h)
          have c6 : wr.cell? ⟨b, 9, none⟩ = some (.slice (some ⟨gl, 0, none⟩) m lc) := by rw [← HS.out]; exact er_cellAt hB5.bk.hb 9 _ rfl
          have hro := hB5.row
          rw [HS.out] at hro
          obtain ⟨g2, e2, -, hrg⟩ := hd_range hro TL.out
          cases e2
          have c1 : wr.cell? ⟨gl, t * 3 + 1, none⟩ = some (G' t) := hrg 1 _ rfl
          obtain ⟨cur, hG⟩ := rowG_of hro
          have f3 := frozenC hG.hb (t * 3 + 1)
          have B5 := Bx.mk hB5; have KP := Bx.mk kp; have KE2 := Bx.mk KE
          clear hB5 hro hrg hG kp KE hlt hk c2
          go_wp2_with fail
          go_roundw
          case rel =>
            have glw := LL.out gl (by rw [HS.out]; rfl)
            have low : ∀ j, (Value.slice a4 (nt + k) c4).ownBlock = some j → (V t).ownBlock = some j ∨ W1.heap.size ≤ j := fun j hj => by
              rcases LP.out.lies with ⟨g, cap, h1, h2⟩ | ⟨_, h2⟩ | h2
              · rw [HV.out, ← HNT.out, h1]; rw [h2] at hj; exact .inl hj
              · rw [HV.out, ← HNT.out, ← h2]; exact .inl hj
              · exact .inr (h2 j hj)
            have hsz : w.heap.size ≤ W1.heap.size := Nat.le_trans KK.out.size K1.out.size
            have ngl : ∀ i, i < m → ∀ j, ((V i).ownBlock = some j ∨ w.heap.size ≤ j) → j ≠ gl := fun i hi j hj e => by
              subst e
              rcases hj with hj | hj
              · exact (BB.out.nb i hi j hj).2 (by rw [HS.out]; rfl)
              · omega
            refine ⟨t + 1, updG G' t (.slice a4 (nt + k) c4), TL.out, (by rw [wrap_succB t (by have := TL.out; have := MB.out; omega)]), B5.out.lay HS.out TL.out, fun i hi => ?_, ?_⟩
            · unfold updG
              by_cases e : i = t
              · subst e
                rw [if_pos rfl]
                refine ⟨?_, fun j hj => (low j hj).imp id (fun h => Nat.le_trans hsz h)⟩
                have h := LP.out.long
                rw [HMK.out, HKT.out, KE2.out, HNT.out] at h
                rw [KE2.out, HNT.out]
                refine ownsRow_setCell_ne h _ _ (fun j hj => ngl i TL.out j ?_)
                exact (low j (by rw [KE2.out, HNT.out]; exact hj)).imp id (fun h => Nat.le_trans hsz h)
              · rw [if_neg e]
                have hit : i < t := by omega
                obtain ⟨h1, h2⟩ := GG.out i hit
                refine ⟨ownsRow_setCell_ne (ownsRow_keep' h1 fun j hj => KP.out.block j (ownsRow_lt h1 j hj) (fun e3 => ?_)) _ _ (fun j hj => ngl i (Nat.lt_trans hit TL.out) j (h2 j hj)), h2⟩
                rcases h2 j hj with h3 | h3
                · exact BB.out.sep i (Nat.lt_trans hit TL.out) t TL.out e j h3 e3
                · have := VL.out t TL.out j e3; omega
            · refine (KK.out.trans (KP.out.mono (S' := fun k => (∃ i, i < m ∧ (V i).ownBlock = some k) ∨ (l 5).ownBlock = some k) (fun j _ hj => .inl ⟨t, TL.out, hj⟩)) (fun _ _ h => h)).trans ((Keep.setCell wr ⟨gl, t * 3 + 1, none⟩ _).mono (S' := fun k => (∃ i, i < m ∧ (V i).ownBlock = some k) ∨ (l 5).ownBlock = some k) (fun j _ hj => .inr (by rw [HS.out, hj]; rfl))) (fun _ _ h => h)
          case measure => rw [wrap_succB t (by have := TL.out; have := MB.out; omega)]; have := TL.out; simp [intOf]; omega
    · obtain rfl : t = m := by omega
      clear ht hlt
      go_wp2_with fail
      go_end0
      exact ⟨rfl, G', BB.out, fun i hi => GG.out i hi, KK.out⟩
end Go.Proofs.YtbhcaalelfaceaaGreatDoor
end
section
namespace Go.Proofs.YtbhcaalelfaceaaGreatDoor
set_option maxRecDepth 100000
open Go.RowKit
set_option maxHeartbeats 3200000 in
theorem lookHash_any (base : Nat) (w : World) (b n : Nat) (l : Nat → Value) (m : Nat) (V : Nat → Value) (N : Nat → Nat) (G : Nat → Value) (Kn : Nat → Nat) (h : BkL 5 114 66 32 base w b n l m V N (fun i => marks (mkHash (Kn i)).toList (N i)) G Kn)
    (hg : ∀ i, i < m → w.ownsRow base 66 32 (G i) (N i + 70) (marks (mkHash (Kn i)).toList (N i + 70))) (hm : m ≤ 100000000) (hN : ∀ i, i < m → N i ≤ 100000000 ∧ Kn i ≤ 100000000) :
    Calls Tryz.prog 58 #[.pointer (some ⟨b, 4, none⟩)] w fun e w' => e = .returned (.bool true) ∧ Below w.heap.size w w' := by
  have BB := Bx.mk h; have MB := Bx.mk hm; have NB := Bx.mk hN; have GG := Bx.mk hg
  obtain ⟨la, lc, hs, -, -, -⟩ := own_shapeK h.row
  have HS := Bx.mk hs
  have CJ := Bx.mk (show w.cell? ⟨b, 9, none⟩ = some (.slice la m lc) by rw [← hs]; exact er_cellAt h.bk.hb 9 _ rfl)
  clear h hm hN hg hs
  go_enter Tryz.func58, Tryz.ntmps58
  go_wp2_with fail
  go_loopw [3] (fun iv wr => ∃ t : Nat, t ≤ m ∧ iv = .int .i64 (t : Int) ∧ Below w.heap.size w wr) (fun iv _ => m - (intOf iv).toNat)
  case atStart => exact ⟨0, Nat.zero_le _, rfl, Below.refl _ _⟩
  case round =>
    obtain ⟨t, ht, rfl, hb⟩ := hrel
    obtain ⟨wo, rfl⟩ : ∃ wo, wo = wr := ⟨_, rfl⟩
    have BW := Bx.mk hb
    have cJ := (hb.cell (block_lt_of_cell CJ.out)).trans CJ.out
    clear hb
    by_cases hlt : t < m
    · have hro := BB.out.row
      rw [HS.out] at hro
      obtain ⟨gl, rfl, hgl, hrg⟩ := hd_range hro hlt
      obtain ⟨va, vc, hv, -, -, -⟩ := own_shapeK (BB.out.li t hlt)
      obtain ⟨ga, gc, hgs, -, -, -⟩ := own_shapeK (GG.out t hlt)
      have hli := BB.out.li t hlt
      have hlo := GG.out t hlt
      rw [hv] at hli
      rw [hgs] at hlo
      obtain ⟨nt, hnt⟩ : ∃ nt, nt = N t := ⟨_, rfl⟩
      obtain ⟨kt, hkt⟩ : ∃ kt, kt = Kn t := ⟨_, rfl⟩
      rw [hv, hgs, ← hnt, ← hkt] at hrg
      rw [← hnt, ← hkt] at hli hlo
      have NT := Bx.mk (show nt ≤ 100000000 ∧ kt ≤ 100000000 by rw [hnt, hkt]; exact NB.out t hlt)
      obtain ⟨qt, hqt⟩ : ∃ qt, qt = nt + 70 := ⟨_, rfl⟩
      rw [← hqt] at hrg hlo
      have RG := Bx.mk (rangeB hrg hgl BW.out); have TL := Bx.mk hlt; have LI := Bx.mk hli; have LO := Bx.mk hlo; have QT := Bx.mk hqt
      have f1 : (t : Int) < (m : Int) := by omega
      have f2b : wrap64 ((nt : Int) + 70) = (qt : Int) := by have := NT.out.1; unfold wrap64; omega
      clear hro hgl hrg hv hnt hkt hlt ht hli hlo hgs hqt
      go_upto_region 5 with (first
        | (guard_target =~ wpList _ _ _ (⟨some 21, _, _, _, _, _⟩ :: _) _ _; refine wpList_load_mid rfl 114 (.tmp 20) rfl gl (t * 3) rfl _ _ RG.out Tryz.underlying114 rfl (by kernel_rfl) ?_)
        | (guard_target =~ wpList _ _ _ (⟨none, _, _, _, _, _⟩ :: _) _ _; refine wpList_store_row rfl 114 (.tmp 4) (.tmp 21) rfl wo.heap.size #[.slice va nt vc, .slice ga qt gc, .int .i64 (kt : Int)] rfl rfl _ #[.slice none 0 0, .slice none 0 0, .int .i64 0] (heap_alloc_new _ _) (by kernel_rfl) rfl (by simp [Value.oneCell']) ?_; rw [setRow_alloc_new _ _ _ _ rfl]))
      have h1 := er_al (Below.refl wo.heap.size wo) (.cells #[.slice va nt vc, .slice ga qt gc, .int .i64 (kt : Int)] 114)
      have h2 := heap_alloc_new wo (.cells #[.slice va nt vc, .slice ga qt gc, .int .i64 (kt : Int)] 114)
      generalize wo.alloc (.cells #[.slice va nt vc, .slice ga qt gc, .int .i64 (kt : Int)] 114) = W1 at h1 h2 ⊢
      obtain ⟨H, hH⟩ : ∃ H, H = wo.heap.size := ⟨_, rfl⟩
      rw [← hH] at h2 ⊢
      have K1 := Bx.mk (BW.out.trans (h1.mono BW.out.size)); have H1 := Bx.mk h2
      have e0 := er_cellAt h2 0 _ rfl; have e1 := er_cellAt h2 1 _ rfl
      clear h1 h2 hH cJ f1
      go_wp2_with fail
      clear e0 e1 f2b
      go_loopw [5] (fun kv wq => ∃ k : Nat, k ≤ qt ∧ kv = .int .i64 (k : Int) ∧ Below W1.heap.size W1 wq) (fun kv _ => qt - (intOf kv).toNat)
      case atStart => exact ⟨0, Nat.zero_le _, rfl, Below.refl _ _⟩
      case round =>
        obtain ⟨k, hk, rfl, hb⟩ := hrel
        have BQ := Bx.mk hb
        have hh := (hb.block H (Array.getElem?_eq_some_iff.1 H1.out).1).trans H1.out
        have c0 := er_cellAt hh 0 _ rfl; have c1 := er_cellAt hh 1 _ rfl; have c2 := er_cellAt hh 2 _ rfl
        have HL := (Array.getElem?_eq_some_iff.1 hh).1
        clear hb hh
        by_cases hlt : k < qt
        · have KL := Bx.mk hlt
          obtain ⟨g2, rfl, hg2, hr2⟩ := own_mark LO.out (mkHashL kt) hlt
          have hrr := rangeB (rangeB hr2 hg2 K1.out) (Nat.lt_of_lt_of_le hg2 K1.out.size) BQ.out
          have hgl := Nat.lt_of_lt_of_le (Nat.lt_of_lt_of_le hg2 K1.out.size) BQ.out.size
          have HR1 : Bx (∀ u, BlwC wr.heap.size wr u → u.rangeAt g2 (k * 32) (mkHash kt).toList) := ⟨fun u ⟨u', hu⟩ => by subst hu; exact rangeB hrr hgl u'.h⟩
          have d0 : ∀ u : Blw wr.heap.size wr, u.w.cell? ⟨H, 0, none⟩ = some (.slice va nt vc) := fun u => (u.h.cell (p := ⟨H, 0, none⟩) HL).trans c0
          have d1 : ∀ u : Blw wr.heap.size wr, u.w.cell? ⟨H, 1, none⟩ = some (.slice (some ⟨g2, 0, none⟩) qt gc) := fun u => (u.h.cell (p := ⟨H, 1, none⟩) HL).trans c1
          have d2 : ∀ u : Blw wr.heap.size wr, u.w.cell? ⟨H, 2, none⟩ = some (.int .i64 (kt : Int)) := fun u => (u.h.cell (p := ⟨H, 2, none⟩) HL).trans c2
          have ne := Blw.ne wr.heap.size wr
          have CI : Bx (∀ u, Below wr.heap.size wr u → Calls Tryz.prog 80 #[.agg (mkHash kt), .int .i64 (kt : Int)] u fun e w' => e = .returned (.bool true) ∧ Below u.heap.size u w') := ⟨fun u _ => by exact isHash_any u kt NT.out.2⟩
          have f1 : (k : Int) < (qt : Int) := by omega
          clear hr2 hg2 hrr hgl HL hk hlt
          by_cases hkn : k < nt
          · obtain ⟨g3, rfl, hg3, hr3⟩ := own_mark LI.out (mkHashL kt) hkn
            have hrr := rangeB (rangeB hr3 hg3 K1.out) (Nat.lt_of_lt_of_le hg3 K1.out.size) BQ.out
            have hgl := Nat.lt_of_lt_of_le (Nat.lt_of_lt_of_le hg3 K1.out.size) BQ.out.size
            have HR2 : Bx (∀ u, BlwC wr.heap.size wr u → u.rangeAt g3 (k * 32) (mkHash kt).toList) := ⟨fun u ⟨u', hu⟩ => by subst hu; exact rangeB hrr hgl u'.h⟩
            have f3 : (k : Int) < (nt : Int) := by omega
            clear hr3 hg3 hrr hgl hkn
            go_upto_region 10 with (fail)
            refine wp_region_quiet_c (C := fun w' => ∃ u : Blw wr.heap.size wr, w' = u.w) (by kernel_rfl) (by kernel_rfl) ⟨⟨_, (Below.refl _ _).drew⟩, rfl⟩ ?_
            iterate 4 go_big_quiet_step (fail)
            go_big_quiet_want
            refine quiet_load_midB 66 (.tmp 40) rfl g2 (k * 32) rfl (mkHash kt).toList _ HR1.out Tryz.underlying66 rfl (by rw [mkHashL]; kernel_rfl) ?_
            go_big_quiet_on
            simp only [Act.put, List.setIfInBounds_toArray, List.set_cons_succ, List.set_cons_zero, Array.toArray_toList]
            iterate 2 go_big_quiet_step (fail)
            go_big_quiet_step (exact Calls.blw (Nat.le_refl _) CI.out)
            iterate 11 go_big_quiet_step (fail)
            go_big_quiet_step (fail)
            go_big_quiet_want
            refine quiet_load_midB 66 (.tmp 56) rfl g3 (k * 32) rfl (mkHash kt).toList _ HR2.out Tryz.underlying66 rfl (by rw [mkHashL]; kernel_rfl) ?_
            go_big_quiet_on
            simp only [Act.put, List.setIfInBounds_toArray, List.set_cons_succ, List.set_cons_zero, Array.toArray_toList]
            iterate 2 go_big_quiet_step (fail)
            go_big_quiet_step (exact Calls.blw (Nat.le_refl _) CI.out)
            iterate 3 go_big_quiet_step (fail)
            refine wpQuiet_nil ?_
            rintro _ ⟨u, rfl⟩
            have BU := Bx.mk (BQ.out.trans (u.h.mono BQ.out.size))
            generalize u.w = W5 at BU ⊢
            clear d0 d1 d2 ne f1 f3
            go_wp2_with fail
            go_roundw
            case rel => exact ⟨k + 1, KL.out, (by rw [wrap_succB k (by have := KL.out; have := NT.out.1; have := QT.out; omega)]), BU.out⟩
            case measure => rw [wrap_succB k (by have := KL.out; have := NT.out.1; have := QT.out; omega)]; have := KL.out; simp [intOf]; omega
          · have f3 : ¬ (k : Int) < (nt : Int) := by omega
            clear hkn
            go_upto_region 10 with (fail)
            refine wp_region_quiet_c (C := fun w' => ∃ u : Blw wr.heap.size wr, w' = u.w) (by kernel_rfl) (by kernel_rfl) ⟨⟨_, (Below.refl _ _).drew⟩, rfl⟩ ?_
            iterate 4 go_big_quiet_step (fail)
            go_big_quiet_want
            refine quiet_load_midB 66 (.tmp 40) rfl g2 (k * 32) rfl (mkHash kt).toList _ HR1.out Tryz.underlying66 rfl (by rw [mkHashL]; kernel_rfl) ?_
            go_big_quiet_on
            simp only [Act.put, List.setIfInBounds_toArray, List.set_cons_succ, List.set_cons_zero, Array.toArray_toList]
            iterate 2 go_big_quiet_step (fail)
            go_big_quiet_step (exact Calls.blw (Nat.le_refl _) CI.out)
            iterate 19 go_big_quiet_step (fail)
            refine wpQuiet_nil ?_
            rintro _ ⟨u, rfl⟩
            have BU := Bx.mk (BQ.out.trans (u.h.mono BQ.out.size))
            generalize u.w = W5 at BU ⊢
            clear d0 d1 d2 ne f1 f3
            go_wp2_with fail
            go_roundw
            case rel => exact ⟨k + 1, KL.out, (by rw [wrap_succB k (by have := KL.out; have := NT.out.1; have := QT.out; omega)]), BU.out⟩
            case measure => rw [wrap_succB k (by have := KL.out; have := NT.out.1; have := QT.out; omega)]; have := KL.out; simp [intOf]; omega
        · have f1 : ¬ (k : Int) < (qt : Int) := by omega
          clear hlt hk c0 c2 HL
          go_wp2_with fail
          go_roundw
          case rel => exact ⟨t + 1, TL.out, (by rw [wrap_succB t (by have := TL.out; have := MB.out; omega)]), K1.out.trans (BQ.out.mono K1.out.size)⟩
          case measure => rw [wrap_succB t (by have := TL.out; have := MB.out; omega)]; have := TL.out; simp [intOf]; omega
    · obtain rfl : t = m := by omega
      have f1 : ¬ (t : Int) < (t : Int) := by omega
      clear ht hlt
      go_wp2_with fail
      go_ret
      exact ⟨rfl, BW.out⟩
end Go.Proofs.YtbhcaalelfaceaaGreatDoor
end
section
namespace Go.Proofs.YtbhcaalelfaceaaGreatDoor
set_option maxRecDepth 100000
open Go.RowKit
/-- what is held of one list: itself, the longer one, its number -/
def hdcHash (x : Value × Value × Int) : List Value := [x.1, x.2.1, .int .i64 x.2.2]
theorem built_heldHash (va : Option Addr) (vn vc : Nat) (n : Int) : Tryz.prog.built 114 [(0, .slice va vn vc), (2, .int .i64 n)] = some #[.slice va vn vc, .slice none 0 0, .int .i64 n] := by kernel_rfl
theorem under_heldHash : Tryz.prog.underlying 32 = some (.slice 114) := by kernel_rfl
theorem info_heldHash : (Tryz.prog.info? 114).map (fun i => (i.zero, i.size, i.bytes)) = some (some (.agg #[.slice none 0 0, .slice none 0 0, .int .i64 0]), 3, 56) := by kernel_rfl
theorem run_bs_heldHash {o : Oper} {a : Act} (w : World) (x : Operand) (ho : o.op = .buildSlice 32 1 #[(0, x)]) (va : Option Addr) (vn vc : Nat) (n : Int) (hx : a.eval x = .agg #[.slice va vn vc, .slice none 0 0, .int .i64 n]) :
    (execOp a.eval o).run Tryz.prog w = .ok (.value (.slice (some ⟨w.heap.size, 0, none⟩) 1 1)) (w.alloc (.cells #[.slice va vn vc, .slice none 0 0, .int .i64 n] 114)) := by
  have hr : (Instr.buildSlice 32 1 #[(0, .agg #[.slice va vn vc, .slice none 0 0, .int .i64 n])]).run Tryz.prog w = .ok (.slice (some ⟨w.heap.size, 0, none⟩) 1 1) (w.alloc (.cells #[.slice va vn vc, .slice none 0 0, .int .i64 n] 114)) := by kernel_rfl
  unfold execOp
  simp only [ho, List.map_toArray, List.map_cons, List.map_nil, hx, Sem.run_bind, hr, Result.andThen_ok, Sem.run_pure]
def StKHash (own : Nat → Option Nat) (w : World) (b n base m : Nat) (l : Nat → Value) (la : Option Addr) (lc : Nat) (xs : List Value) (va : Option Addr) (vn vc B2 : Nat) : Prop :=
  ∃ s1, OutV own w b 15 47 #[l 17, l 18, l 19, l 20, .int .i64 ((n + 1 : Nat) : Int), l 1, l 2, l 3, l 4, s1, l 6, l 7, l 8, l 9, l 10, l 11, l 12, l 13, l 14, l 15, l 16] ∧ GrownW own w 12 base 114 3 s1 (m + 1) (xs ++ (#[.slice va vn vc, .slice none 0 0, .int .i64 ((n + 1 : Nat) : Int)] : Array Value).toList) (.slice la m lc) B2
def VKHash (b n base m : Nat) (l : Nat → Value) (la : Option Addr) (lc : Nat) (xs : List Value) (va : Option Addr) (vn vc B2 : Nat) (oi : Nat) (v : Value) (own : Nat → Option Nat) (w : World) : Prop :=
  match oi with
  | 0 => v = .pointer (some ⟨b, 4, none⟩)
  | 1 => v = .pointer (some ⟨b, 4, none⟩)
  | 2 => v = .pointer (some ⟨b, 4, none⟩)
  | 3 => v = .pointer (some ⟨b, 9, none⟩)
  | 4 => v = .slice la m lc
  | 5 => v = .slice va vn vc
  | 6 => v = .pointer (some ⟨b, 4, none⟩)
  | 7 => v = .pointer (some ⟨b, 4, none⟩)
  | 8 => v = .pointer (some ⟨b, 4, none⟩)
  | 9 => v = .int .i64 ((n + 1 : Nat) : Int)
  | 10 => v = .agg #[.slice va vn vc, .slice none 0 0, .int .i64 ((n + 1 : Nat) : Int)]
  | 11 => BuiltV own w v 1 114 #[.slice va vn vc, .slice none 0 0, .int .i64 ((n + 1 : Nat) : Int)]
  | 12 => GrownW own w 12 base 114 3 v (m + 1) (xs ++ (#[.slice va vn vc, .slice none 0 0, .int .i64 ((n + 1 : Nat) : Int)] : Array Value).toList) (.slice la m lc) B2
  | 13 => v = .pointer (some ⟨b, 4, none⟩)
  | 14 => v = .pointer (some ⟨b, 9, none⟩)
  | 15 => StKHash own w b n base m l la lc xs va vn vc B2
  | _ => True
def VKHashmk : Nat → Option Nat := fun _ => none
theorem VKHash_mono (b n base m : Nat) (l : Nat → Value) (la : Option Addr) (lc : Nat) (xs : List Value) (va : Option Addr) (vn vc B2 : Nat) (oi oj : Nat) (v : Value) (own : Nat → Option Nat) (w : World) (own' : Nat → Option Nat) (w' : World) (hij : oi ≠ oj)  (hx0 : oi = 12 → oj = 15 → False) (h : VKHash b n base m l la lc xs va vn vc B2 oj v own w) (r : Rel VKHashmk oi own w own' w') : VKHash b n base m l la lc xs va vn vc B2 oj v own' w' := by
  unfold VKHash at h ⊢
  split at h
  · exact h
  · exact h
  · exact h
  · exact h
  · exact h
  · exact h
  · exact h
  · exact h
  · exact h
  · exact h
  · exact h
  · exact h.stable r
  · exact h.stable r hij
  · exact h
  · exact h
  · obtain ⟨s1, h1, h2⟩ := h; exact ⟨s1, h1.stable r hij, h2.stable r (fun e => hx0 e rfl)⟩
  · trivial

set_option maxHeartbeats 1600000 in
theorem keepHash_any (base : Nat) (w : World) (b n : Nat) (l : Nat → Value) (m : Nat) (xs : List Value) (hB : BkP w b (n : Int) l) (hO : w.ownsRow base 114 3 (l 5) m xs) (hm : m ≤ 100000000) (hn : n ≤ 100000000) (hne : ∀ j, (l 5).ownBlock = some j → j ≠ b) (hbase : base ≤ w.heap.size) (va : Option Addr) (vn vc : Nat) :
    Calls Tryz.prog 81 #[.pointer (some ⟨b, 4, none⟩), .slice va vn vc] w fun e w' => e = .returned (.tuple #[]) ∧ ∃ x, BkP w' b ((n + 1 : Nat) : Int) (updK l 5 x) ∧ w'.ownsRow base 114 3 x (m + 1) (xs ++ hdcHash (.slice va vn vc, .slice none 0 0, ((n + 1 : Nat) : Int))) ∧ Keep (fun k => k = b ∨ (l 5).ownBlock = some k) w w' ∧ ∀ k, x.ownBlock = some k → k ≠ b ∧ ((l 5).ownBlock = some k ∨ w.heap.size ≤ k) := by
  obtain ⟨la, lc, hs, -, -, -⟩ := own_shapeK hO
  have c0 := er_cellAt hB.hb 4 _ rfl
  have f0 : w.frozen? ⟨b, 4, none⟩ = false := by simp [World.frozen?, hB.hb]
  have hlt := (Array.getElem?_eq_some_iff.1 hB.hb).1
  rw [hs] at hO hne
  have hx : (w.setCell ⟨b, 4, none⟩ (.int .i64 ((n + 1 : Nat) : Int))).heap[b]? = some (.cells #[l 17, l 18, l 19, l 20, .int .i64 ((n + 1 : Nat) : Int), l 1, l 2, l 3, l 4, (.slice la m lc), l 6, l 7, l 8, l 9, l 10, l 11, l 12, l 13, l 14, l 15, l 16] 47 (0, 0)) := by
    have h := hB.hb
    rw [hs] at h
    simp [World.setCell, Array.getElem?_modify, h]
  have ho := ownsRow_setCell_ne hO ⟨b, 4, none⟩ (.int .i64 ((n + 1 : Nat) : Int)) (fun j hj e => hne j hj e)
  have hk := Keep.setCell w ⟨b, 4, none⟩ (.int .i64 ((n + 1 : Nat) : Int))
  have fw : wrap64 ((n : Int) + 1) = ((n + 1 : Nat) : Int) := by unfold wrap64; omega
  have HS := Bx.mk hs; have HN := Bx.mk hn; have HM := Bx.mk hm; have RNB := Bx.mk hne; have OX0 := Bx.mk ho; have XB0 := Bx.mk hx; have KX0 := Bx.mk hk; have FW := Bx.mk fw; have BS := Bx.mk hbase; have WL := Bx.mk hlt; have OL := Bx.mk (fun j (hj : (Value.slice la m lc).ownBlock = some j) => ownsRow_lt hO j hj)
  clear hB hO hm hn hne hs hx ho hk hbase hlt
  go_enter Tryz.func81, Tryz.ntmps81
  go_upto_region 1 with (fail)
  change Code.wp _ _ _ _ (w.setCell ⟨b, 4, none⟩ (.int .i64 ((n + 1 : Nat) : Int)))
  clear c0 f0 fw
  generalize w.setCell ⟨b, 4, none⟩ (.int .i64 ((n + 1 : Nat) : Int)) = X at OX0 XB0 KX0 ⊢
  have XBX := XB0; have OX := OX0
  have XBL := Bx.mk (Array.getElem?_eq_some_iff.1 XBX.out).1
  have HTP := Bx.mk (fun k' (hk' : X.heap.size ≤ k') => ownBK_none (b := b) (v := .slice la m lc) (i := 15) (j := 12) (k := k') (fun e => by have := OL.out _ e; have := KX0.out.size; omega) (by have := XBL.out; omega))
  obtain ⟨j0, hj0, hy0, hy1, hy2⟩ := info_partsB info_heldHash
  have RJ := Bx.mk (And.intro hj0 (And.intro hy0 (And.intro hy1 hy2)))
  have Q1 := Bx.mk (show m + 1 ≤ maxLen by have := HM.out; unfold maxLen; omega); have Q2 := Bx.mk (show (m + 1) * 56 ≤ 140737488355328 by have := HM.out; omega)
  have QB := Bx.mk (show base ≤ X.heap.size from Nat.le_trans BS.out KX0.out.size)
  clear hj0 hy0 hy1 hy2
  refine wp_region_own8 (n := 26) VKHashmk (ownBK b (.slice la m lc) 15 12) (VKHash b n base m l la lc xs va vn vc (X.heap.size)) (by kernel_rfl) (by kernel_rfl) rfl (fun k hk => HTP.out k hk) (fun j i hj _ => by cases hj) ?_ ?_ ?_
  · exact fun oi oj v own w own' w' hij hnd h r => VKHash_mono b n base m l la lc xs va vn vc (X.heap.size) oi oj v own w own' w' hij (by rintro rfl rfl; exact Bool.noConfusion (hnd.symm.trans (show depB _ 15 12 = true by kernel_rfl))) h r
  · intro oi o hi f u own hsame hsn hfr hlate hkeep8 hdep
    have hkeep := hkeep8 _ (.inl rfl)
    match oi, hi with
    | 0, hi =>
      cases (show some _ = some o from hi)
      have e0 : f.tmps.getD 0 undef = .pointer (some ⟨b, 4, none⟩) := hsame.slot 0 (fun i o h => invB2_not 0 (by kernel_rfl) h)
      clear hdep hsame hi hlate hfr hkeep
      exact .inl ⟨wanted_none rfl, showsO_move hsn rfl _ rfl e0⟩
    | 1, hi =>
      cases (show some _ = some o from hi)
      have e0 : f.tmps.getD 0 undef = .pointer (some ⟨b, 4, none⟩) := hsame.slot 0 (fun i o h => invB2_not 0 (by kernel_rfl) h)
      clear hdep hsame hi hlate hfr hkeep
      exact .inl ⟨wanted_none rfl, showsO_move hsn rfl _ rfl e0⟩
    | 2, hi =>
      cases (show some _ = some o from hi)
      have e12 : (f.tmps.getD 12 undef) = .pointer (some ⟨b, 4, none⟩) := depO (V := (VKHash b n base m l la lc xs va vn vc (X.heap.size))) hdep 1 12 (by kernel_rfl) (by kernel_rfl)
      clear hdep hsame hi hlate hfr hkeep
      exact .inl ⟨wanted_none rfl, showsO_pure hsn rfl (.pointer (some ⟨b, 4, none⟩)) (by simp only [execOp, Act.eval]; go_simp) rfl⟩
    | 3, hi =>
      cases (show some _ = some o from hi)
      have e13 : (f.tmps.getD 13 undef) = .pointer (some ⟨b, 4, none⟩) := depO (V := (VKHash b n base m l la lc xs va vn vc (X.heap.size))) hdep 2 13 (by kernel_rfl) (by kernel_rfl)
      clear hdep hsame hi hlate hfr hkeep
      exact .inl ⟨wanted_none rfl, showsO_pure hsn rfl (.pointer (some ⟨b, 9, none⟩)) (by simp only [execOp, Act.eval]; go_simp) rfl⟩
    | 4, hi =>
      cases (show some _ = some o from hi)
      have e14 : (f.tmps.getD 14 undef) = .pointer (some ⟨b, 9, none⟩) := depO (V := (VKHash b n base m l la lc xs va vn vc (X.heap.size))) hdep 3 14 (by kernel_rfl) (by kernel_rfl)
      clear hdep hsame hi hlate hfr hkeep
      have cc5 := er_cellAt ((hkeep8 15 (.inr (by kernel_rfl)) b XBL.out (ownBK_one _ _ _ _)).trans XBX.out) 9 _ rfl
      exact .inl ⟨wanted_none rfl, showsO_pure hsn rfl (.slice la m lc) (by simp only [execOp, Act.eval]; go_simp) rfl⟩
    | 5, hi =>
      cases (show some _ = some o from hi)
      have e1 : f.tmps.getD 1 undef = .slice va vn vc := hsame.slot 1 (fun i o h => invB2_not 1 (by kernel_rfl) h)
      clear hdep hsame hi hlate hfr hkeep
      exact .inl ⟨wanted_none rfl, showsO_move hsn rfl _ rfl e1⟩
    | 6, hi =>
      cases (show some _ = some o from hi)
      have e0 : f.tmps.getD 0 undef = .pointer (some ⟨b, 4, none⟩) := hsame.slot 0 (fun i o h => invB2_not 0 (by kernel_rfl) h)
      clear hdep hsame hi hlate hfr hkeep
      exact .inl ⟨wanted_none rfl, showsO_move hsn rfl _ rfl e0⟩
    | 7, hi =>
      cases (show some _ = some o from hi)
      have e17 : (f.tmps.getD 17 undef) = .pointer (some ⟨b, 4, none⟩) := depO (V := (VKHash b n base m l la lc xs va vn vc (X.heap.size))) hdep 6 17 (by kernel_rfl) (by kernel_rfl)
      clear hdep hsame hi hlate hfr hkeep
      exact .inl ⟨wanted_none rfl, showsO_pure hsn rfl (.pointer (some ⟨b, 4, none⟩)) (by simp only [execOp, Act.eval]; go_simp) rfl⟩
    | 8, hi =>
      cases (show some _ = some o from hi)
      have e18 : (f.tmps.getD 18 undef) = .pointer (some ⟨b, 4, none⟩) := depO (V := (VKHash b n base m l la lc xs va vn vc (X.heap.size))) hdep 7 18 (by kernel_rfl) (by kernel_rfl)
      clear hdep hsame hi hlate hfr hkeep
      exact .inl ⟨wanted_none rfl, showsO_pure hsn rfl (.pointer (some ⟨b, 4, none⟩)) (by simp only [execOp, Act.eval]; go_simp) rfl⟩
    | 9, hi =>
      cases (show some _ = some o from hi)
      have e19 : (f.tmps.getD 19 undef) = .pointer (some ⟨b, 4, none⟩) := depO (V := (VKHash b n base m l la lc xs va vn vc (X.heap.size))) hdep 8 19 (by kernel_rfl) (by kernel_rfl)
      clear hdep hsame hi hlate hfr hkeep
      have cc0 := er_cellAt ((hkeep8 15 (.inr (by kernel_rfl)) b XBL.out (ownBK_one _ _ _ _)).trans XBX.out) 4 _ rfl
      exact .inl ⟨wanted_none rfl, showsO_pure hsn rfl (.int .i64 ((n + 1 : Nat) : Int)) (by simp only [execOp, Act.eval]; go_simp) rfl⟩
    | 10, hi =>
      cases (show some _ = some o from hi)
      have e16 : (f.tmps.getD 16 undef) = .slice va vn vc := depO (V := (VKHash b n base m l la lc xs va vn vc (X.heap.size))) hdep 5 16 (by kernel_rfl) (by kernel_rfl)
      have e20 : (f.tmps.getD 20 undef) = .int .i64 ((n + 1 : Nat) : Int) := depO (V := (VKHash b n base m l la lc xs va vn vc (X.heap.size))) hdep 9 20 (by kernel_rfl) (by kernel_rfl)
      clear hdep hsame hi hlate hfr hkeep
      exact .inl ⟨wanted_none rfl, showsO_build hsn rfl 114 #[(0, .tmp 16), (2, .tmp 20)] rfl #[.slice va vn vc, .slice none 0 0, .int .i64 ((n + 1 : Nat) : Int)] (by simp only [List.map_toArray, List.map_cons, List.map_nil, Act.eval]; rw [e16, e20]; exact built_heldHash _ _ _ _) rfl⟩
    | 11, hi =>
      cases (show some _ = some o from hi)
      have e21 : (f.tmps.getD 21 undef) = .agg #[.slice va vn vc, .slice none 0 0, .int .i64 ((n + 1 : Nat) : Int)] := depO (V := (VKHash b n base m l la lc xs va vn vc (X.heap.size))) hdep 10 21 (by kernel_rfl) (by kernel_rfl)
      clear hdep hsame hi hlate hfr hkeep
      exact .inl ⟨wanted_none rfl, showsO_built hsn rfl 1 114 #[.slice va vn vc, .slice none 0 0, .int .i64 ((n + 1 : Nat) : Int)] (run_bs_heldHash u (.tmp 21) rfl _ _ _ _ e21) (fun h => h)⟩
    | 12, hi =>
      cases (show some _ = some o from hi)
      have e15 : (f.tmps.getD 15 undef) = .slice la m lc := depO (V := (VKHash b n base m l la lc xs va vn vc (X.heap.size))) hdep 4 15 (by kernel_rfl) (by kernel_rfl)
      have e22 : BuiltV own u (f.tmps.getD 22 undef) 1 114 #[.slice va vn vc, .slice none 0 0, .int .i64 ((n + 1 : Nat) : Int)] := depO (V := (VKHash b n base m l la lc xs va vn vc (X.heap.size))) hdep 11 22 (by kernel_rfl) (by kernel_rfl)
      clear hdep hsame hi hlate hfr
      exact .inl ⟨wanted_none rfl, showsO_appendW hsn hkeep rfl (.tmp 15) (.tmp 22) 32 rfl base 114 j0 (.agg #[.slice none 0 0, .slice none 0 0, .int .i64 0]) 3 56 under_heldHash RJ.out.1 RJ.out.2.1 RJ.out.2.2.1 RJ.out.2.2.2 rfl (by decide) (.slice la m lc) m xs e15 OX.out (fun j hj => ownBK_two hj (RNB.out j hj)) e22 rfl (by simp [Value.oneCell']) Q1.out Q2.out QB.out (fun _ _ _ h => h)⟩
    | 13, hi =>
      cases (show some _ = some o from hi)
      have e11 : (f.tmps.getD 11 undef) = .pointer (some ⟨b, 4, none⟩) := depO (V := (VKHash b n base m l la lc xs va vn vc (X.heap.size))) hdep 0 11 (by kernel_rfl) (by kernel_rfl)
      clear hdep hsame hi hlate hfr hkeep
      exact .inl ⟨wanted_none rfl, showsO_pure hsn rfl (.pointer (some ⟨b, 4, none⟩)) (by simp only [execOp, Act.eval]; go_simp) rfl⟩
    | 14, hi =>
      cases (show some _ = some o from hi)
      have e24 : (f.tmps.getD 24 undef) = .pointer (some ⟨b, 4, none⟩) := depO (V := (VKHash b n base m l la lc xs va vn vc (X.heap.size))) hdep 13 24 (by kernel_rfl) (by kernel_rfl)
      clear hdep hsame hi hlate hfr hkeep
      exact .inl ⟨wanted_none rfl, showsO_pure hsn rfl (.pointer (some ⟨b, 9, none⟩)) (by simp only [execOp, Act.eval]; go_simp) rfl⟩
    | 15, hi =>
      cases (show some _ = some o from hi)
      have e23 : GrownW own u 12 base 114 3 (f.tmps.getD 23 undef) (m + 1) (xs ++ (#[.slice va vn vc, .slice none 0 0, .int .i64 ((n + 1 : Nat) : Int)] : Array Value).toList) (.slice la m lc) (X.heap.size) := depO (V := (VKHash b n base m l la lc xs va vn vc (X.heap.size))) hdep 12 23 (by kernel_rfl) (by kernel_rfl)
      have e25 : (f.tmps.getD 25 undef) = .pointer (some ⟨b, 9, none⟩) := depO (V := (VKHash b n base m l la lc xs va vn vc (X.heap.size))) hdep 14 25 (by kernel_rfl) (by kernel_rfl)
      clear hdep hsame hi hlate hfr hkeep
      have hst := er_cellAt ((hkeep8 15 (.inl rfl) b XBL.out (ownBK_one _ _ _ _)).trans XBX.out) 9 _ rfl
      have hfr2 : u.frozen? ⟨b, 9, none⟩ = false := by simp [World.frozen?, ((hkeep8 15 (.inl rfl) b XBL.out (ownBK_one _ _ _ _)).trans XBX.out)]
      obtain ⟨a1, c1, ev, _, _, _⟩ := own_shapeK e23.1.1
      rw [ev] at e23
      have hob : own b = some 15 := (hsn.owns b XBL.out).trans (ownBK_one _ _ _ _)
      have HQ : ∀ {v}, GrownW own u 12 base 114 3 v (m + 1) (xs ++ (#[.slice va vn vc, .slice none 0 0, .int .i64 ((n + 1 : Nat) : Int)] : Array Value).toList) (.slice la m lc) (X.heap.size) → GrownW own u 12 base 114 3 v (m + 1) (xs ++ (#[.slice va vn vc, .slice none 0 0, .int .i64 ((n + 1 : Nat) : Int)] : Array Value).toList) (.slice la m lc) (X.heap.size) := fun h => h
      exact .inl ⟨wanted_none rfl, showsO_store_cell hsn hkeep8 rfl b 9 #[l 17, l 18, l 19, l 20, .int .i64 ((n + 1 : Nat) : Int), l 1, l 2, l 3, l 4, (.slice la m lc), l 6, l 7, l 8, l 9, l 10, l 11, l 12, l 13, l 14, l 15, l 16] 47 XBX.out (ownBK_one _ _ _ _) (.slice a1 (m + 1) c1) (by simp only [execOp, Act.eval]; go_simp) (fun h => ⟨_, h, grownW_setCellK (HQ e23) b 9 _ hob (by decide)⟩)⟩
    | n + 16, hi => exact absurd hi (by simp)
  · intro f u own hsame hsn hall
    have q11 : f.tmps.getD 11 undef = .pointer (some ⟨b, 4, none⟩) := finO (V := (VKHash b n base m l la lc xs va vn vc (X.heap.size))) hall 0 11 rfl
    have q12 : f.tmps.getD 12 undef = .pointer (some ⟨b, 4, none⟩) := finO (V := (VKHash b n base m l la lc xs va vn vc (X.heap.size))) hall 1 12 rfl
    have q13 : f.tmps.getD 13 undef = .pointer (some ⟨b, 4, none⟩) := finO (V := (VKHash b n base m l la lc xs va vn vc (X.heap.size))) hall 2 13 rfl
    have q14 : f.tmps.getD 14 undef = .pointer (some ⟨b, 9, none⟩) := finO (V := (VKHash b n base m l la lc xs va vn vc (X.heap.size))) hall 3 14 rfl
    have q15 : f.tmps.getD 15 undef = .slice la m lc := finO (V := (VKHash b n base m l la lc xs va vn vc (X.heap.size))) hall 4 15 rfl
    have q16 : f.tmps.getD 16 undef = .slice va vn vc := finO (V := (VKHash b n base m l la lc xs va vn vc (X.heap.size))) hall 5 16 rfl
    have q17 : f.tmps.getD 17 undef = .pointer (some ⟨b, 4, none⟩) := finO (V := (VKHash b n base m l la lc xs va vn vc (X.heap.size))) hall 6 17 rfl
    have q18 : f.tmps.getD 18 undef = .pointer (some ⟨b, 4, none⟩) := finO (V := (VKHash b n base m l la lc xs va vn vc (X.heap.size))) hall 7 18 rfl
    have q19 : f.tmps.getD 19 undef = .pointer (some ⟨b, 4, none⟩) := finO (V := (VKHash b n base m l la lc xs va vn vc (X.heap.size))) hall 8 19 rfl
    have q20 : f.tmps.getD 20 undef = .int .i64 ((n + 1 : Nat) : Int) := finO (V := (VKHash b n base m l la lc xs va vn vc (X.heap.size))) hall 9 20 rfl
    have q21 : f.tmps.getD 21 undef = .agg #[.slice va vn vc, .slice none 0 0, .int .i64 ((n + 1 : Nat) : Int)] := finO (V := (VKHash b n base m l la lc xs va vn vc (X.heap.size))) hall 10 21 rfl
    obtain ⟨g22, q22, o22, m22⟩ : BuiltV own u (f.tmps.getD 22 undef) 1 114 #[.slice va vn vc, .slice none 0 0, .int .i64 ((n + 1 : Nat) : Int)] := finO (V := (VKHash b n base m l la lc xs va vn vc (X.heap.size))) hall 11 22 rfl
    have m23 := finO (V := (VKHash b n base m l la lc xs va vn vc (X.heap.size))) hall 12 23 rfl
    obtain ⟨r23, q23⟩ : ∃ r, f.tmps.getD 23 undef = r := ⟨_, rfl⟩
    rw [q23] at m23
    have q24 : f.tmps.getD 24 undef = .pointer (some ⟨b, 4, none⟩) := finO (V := (VKHash b n base m l la lc xs va vn vc (X.heap.size))) hall 13 24 rfl
    have q25 : f.tmps.getD 25 undef = .pointer (some ⟨b, 9, none⟩) := finO (V := (VKHash b n base m l la lc xs va vn vc (X.heap.size))) hall 14 25 rfl
    obtain ⟨s1, ⟨ob, hbb⟩, ⟨gw, gf⟩, gz⟩ := finN (V := (VKHash b n base m l la lc xs va vn vc (X.heap.size))) hall 15 rfl
    obtain rfl := frame_eq hsame [(11, .pointer (some ⟨b, 4, none⟩)), (12, .pointer (some ⟨b, 4, none⟩)), (13, .pointer (some ⟨b, 4, none⟩)), (14, .pointer (some ⟨b, 9, none⟩)), (15, .slice la m lc), (16, .slice va vn vc), (17, .pointer (some ⟨b, 4, none⟩)), (18, .pointer (some ⟨b, 4, none⟩)), (19, .pointer (some ⟨b, 4, none⟩)), (20, .int .i64 ((n + 1 : Nat) : Int)), (21, .agg #[.slice va vn vc, .slice none 0 0, .int .i64 ((n + 1 : Nat) : Int)]), (22, .slice (some ⟨g22, 0, none⟩) 1 1), (23, r23), (24, .pointer (some ⟨b, 4, none⟩)), (25, .pointer (some ⟨b, 9, none⟩))] (by kernel_rfl) ⟨q11, q12, q13, q14, q15, q16, q17, q18, q19, q20, q21, q22, q23, q24, q25, trivial⟩
    clear hall hsame q11 q12 q13 q14 q15 q16 q17 q18 q19 q20 q21 q22 q23 q24 q25
    simp only [List.foldl, List.setIfInBounds_toArray, List.set_cons_succ, List.set_cons_zero]
    have kbr := hsn.keepBK
    have SNE := Bx.mk (fun j (hj : s1.ownBlock = some j) => (show j ≠ b by
      rintro rfl
      rcases gf j hj with h1 | h1 <;> rw [ob] at h1 <;> cases h1))
    have HBB := Bx.mk hbb; have GW := Bx.mk gw; have GZ := Bx.mk gz; have KBR := Bx.mk kbr
    clear hbb gw gz kbr gf ob hsn
    go_wp2_with fail
    go_end0
    refine ⟨rfl, s1, ⟨HBB.out⟩, GW.out, ?_, fun k hk => ⟨SNE.out k hk, ?_⟩⟩
    · rw [HS.out]
      exact (KX0.out.mono (S' := fun k => k = b ∨ (Value.slice la m lc).ownBlock = some k) (fun j _ h => .inl h)).trans KBR.out (fun _ _ h => h)
    · rw [HS.out]
      rcases GZ.out k hk with h1 | h1
      · exact .inl h1
      · exact .inr (Nat.le_trans KX0.out.size h1)
end Go.Proofs.YtbhcaalelfaceaaGreatDoor
end
