/- A whole row read by an operation under a guard that holds. cartularylaw01.LeftHashes; cartularyref18.Root, Inclusion; verify.Inclusion. cartularylaw01.Beyond. -/
import Derived.Test.YtbhcaalelfaceaaGreatDoorG1
import Derived.Laws.Rows
import Derived.Test.YtbhcaalelfaceaaGreatDoorVt
import Derived.Test.YtbhcaalelfaceaaGreatDoorChecked
import Derived.WalkKit
import Derived.LoopTactic
section
namespace Go.Proofs.YtbhcaalelfaceaaGreatDoor
open Go.RowKit
theorem wpList_load_row_w {P : Program} {ops : Array Oper} {rest : List Oper} {o : Oper} {a : Act} {w : World} {Q : Exit → Act → World → Prop} (hw : Region.wanted o (yielded ops a.tmps) = true) (ty : TypeId) (x : Operand) (ho : o.op = .load ty x)
    (g : Nat) (hx : a.eval x = .pointer (some ⟨g, 0, none⟩)) (t : TypeId) (cs : Array Value) (fr : Nat × Nat) (d : TypeDesc) (hg : w.heap[g]? = some (.cells cs t fr))
    (hu : P.underlying ty = some d) (hd : (match d with | .struct _ | .array _ _ => true | _ => false) = true) (hi : (P.info? ty).map (·.size) = some cs.size)
    (h : wpList P ops Q rest (a.put o.dst (.agg cs)) w) : wpList P ops Q (o :: rest) a w :=
  wpList_step fun K hK => by rw [if_pos hw]; exact wp_load_row ty x ho g hx t cs fr d hg hu hd hi (hK _ _ h)
end Go.Proofs.YtbhcaalelfaceaaGreatDoor
end
section
namespace Go.Proofs.YtbhcaalelfaceaaGreatDoor
set_option maxRecDepth 100000
open Go.RowKit
theorem wpList_load_mid_w {P : Program} {ops : Array Oper} {rest : List Oper} {o : Oper} {a : Act} {w : World} {Q : Exit → Act → World → Prop} (hw : Region.wanted o (yielded ops a.tmps) = true) (ty : TypeId) (x : Operand) (ho : o.op = .load ty x)
    (b q : Nat) (hx : a.eval x = .pointer (some ⟨b, q, none⟩)) (cs : List Value) (d : TypeDesc) (hc : w.rangeAt b q cs)
    (hu : P.underlying ty = some d) (hd : d.isRow = true) (hi : (P.info? ty).map (·.size) = some cs.length)
    (h : wpList P ops Q rest (a.put o.dst (.agg cs.toArray)) w) : wpList P ops Q (o :: rest) a w :=
  wpList_step fun K hK => by rw [if_pos hw]; exact wp_load_mid ty x ho b q hx cs d hc hu hd hi (hK _ _ h)
set_option maxHeartbeats 800000 in
theorem isHashL_any (w : World) : Calls Tryz.prog 80 #[.agg (ocells markH), .int .i64 7777] w fun e w' => e = .returned (.bool true) ∧ Below w.heap.size w w' := by
  have q : ∀ u : World, (binOp .eql 66 (.agg (ocells markH)) (.agg #[.int .u8 97, .int .u8 30, .int .u8 0, .int .u8 0, .int .u8 0, .int .u8 0, .int .u8 0, .int .u8 0, .int .u8 0, .int .u8 0, .int .u8 0, .int .u8 0, .int .u8 0, .int .u8 0, .int .u8 0, .int .u8 0, .int .u8 0, .int .u8 0, .int .u8 0, .int .u8 0, .int .u8 0, .int .u8 0, .int .u8 0, .int .u8 0, .int .u8 0, .int .u8 0, .int .u8 0, .int .u8 0, .int .u8 0, .int .u8 0, .int .u8 0, .int .u8 201])).run Tryz.prog u = .ok (.bool true) u := fun u => (hv_eq u markH markH rfl rfl).trans (by simp)
  have r0 : (w.alloc (.cells (ocells markH) 66)).heap[w.heap.size]? = some (.cells (ocells markH) 66 (0, 0)) := heap_alloc_new _ _
  have k0 := er_al (Below.refl w.heap.size w) (.cells (ocells markH) 66)
  generalize hmm : ocells markH = mm at q r0 k0 ⊢
  have hsz := hszL markH_length
  rw [hmm] at hsz
  go_enter Tryz.func80, Tryz.ntmps80
  go_upto_region 1 with (fail)
  change Code.wp _ _ _ _ (w.alloc (.cells mm 66))
  generalize w.alloc (.cells mm 66) = W at r0 k0 ⊢
  have R0' := Bx.mk r0; have K0 := Bx.mk k0; have SZ := Bx.mk hsz; clear r0 k0 hmm hsz
  go_wp2_with (guard_target =~ wpList _ _ _ (⟨some 5, _, _, _, _, _⟩ :: _) _ _; refine wpList_load_row rfl 66 (.tmp 2) rfl w.heap.size rfl _ _ _ _ R0'.out underH rfl SZ.out ?_)
  go_ret
  exact ⟨rfl, K0.out⟩
set_option maxHeartbeats 1600000 in
theorem left_any (w : World) (v : Value) (ps : List (List UInt8)) (ad : Option Addr) (n cap : Nat) (h1 : TwinAt w v ps) (h2 : Hss w (.slice ad n cap) ps) (hm : ps.length ≤ 1048576) :
    Calls Tryz.prog 15 #[v, .slice ad n cap] w fun e w' => e = .returned (.bool true) ∧ Below w.heap.size w w' := by
  obtain ⟨_, _, e1, b1, b1'⟩ := h2.len
  have hn1 : n = ps.length := by cases e1; rfl
  subst hn1
  have h1' := h1
  obtain ⟨hh, B, rfl, hB, hr⟩ := h1'
  have cs := same_any w _ _ _ ps _ _ _ ps hh h2
  rw [show (ps == ps) = true by simp] at cs
  have T := Bx.mk h1; have CS := Bx.mk cs; have BL := Bx.mk hB; have RG := Bx.mk hr
  clear h1 cs hB hr hh e1 h2
  obtain ⟨l, hl⟩ : ∃ l, l = ps.length := ⟨_, rfl⟩
  rw [← hl] at CS RG hm ⊢
  have HL := Bx.mk hl; clear hl
  have d1 : IntKind.i64.wrap ((l : Int) + 1) = (l : Int) + 1 := by simp [IntKind.wrap, IntKind.bits, IntKind.signed]; omega
  go_enter Tryz.func15, Tryz.ntmps15
  go_wp2_with fail
  refine CS.out.mono ?_
  rintro e w1 ⟨rfl, hb⟩
  have hr := rangeAt_below RG.out BL.out hb
  have R1 := Bx.mk hr; have B1 := Bx.mk hb; clear hr hb
  have f1 : ¬ (l : Int) + 1 ≤ (l : Int) := by omega
  have f2 : (l : Int) < (l : Int) + 1 := by omega
  go_wp2_with (guard_target =~ wpList _ _ _ (⟨some 17, _, _, _, _, _⟩ :: _) _ _; refine wpList_load_mid_w rfl 66 (.tmp 16) rfl B (l * 32) rfl (bcells markH) _ R1.out underH rfl (hszB' markH_length) ?_)
  refine (isHashL_any w1).mono ?_
  rintro e w2 ⟨rfl, hb⟩
  have B2 := Bx.mk (B1.out.trans (hb.mono B1.out.size)); clear hb
  go_wp2_with fail
  go_ret
  exact ⟨rfl, B2.out⟩
end Go.Proofs.YtbhcaalelfaceaaGreatDoor
end
section
namespace Go.Proofs.YtbhcaalelfaceaaGreatDoor
set_option maxRecDepth 100000
open Go.RowKit
/-- a value that reads as whole numbers from nought on -/
def Ints (w : World) (v : Value) (xs : List Nat) : Prop :=
  ∃ (a : Option Addr) (cap : Nat), v = .slice a xs.length cap ∧ xs.length ≤ cap ∧ cap ≤ maxLen ∧
    (xs ≠ [] → ∃ B off, a = some ⟨B, off, none⟩ ∧ B < w.heap.size ∧ ∀ i, (h : i < xs.length) → w.cell? ⟨B, off + i, none⟩ = some (.int .i64 (xs[i] : Int)))
theorem sum_take_succ (xs : List Nat) (t : Nat) (h : t < xs.length) : (xs.take (t + 1)).sum = (xs.take t).sum + xs[t] := by
  rw [List.take_succ_eq_append_getElem h, List.sum_append]; simp
theorem sum_take_le (xs : List Nat) (t : Nat) : (xs.take t).sum ≤ xs.sum := by
  conv => rhs; rw [← List.take_append_drop t xs]
  rw [List.sum_append]; omega
set_option maxHeartbeats 800000 in
theorem beyond_any (w : World) (v : Value) (xs : List Nat) (hv' : Ints w v xs) (hx : xs.sum < 9223372036854775808) :
    Calls Tryz.prog 6 #[v] w fun e w' => e = .returned (.bool (decide (1048576 < xs.sum))) ∧ w = w' := by
  obtain ⟨a0, c0, rfl, hc1, hc2, hcs⟩ := hv'
  have CS := Bx.mk hcs; have HX := Bx.mk hx
  unfold maxLen at hc2
  clear hcs hx
  go_enter Tryz.func6, Tryz.ntmps6
  go_wp2_with fail
  go_loopw [3, 4] (fun n i wr => ∃ t : Nat, t ≤ xs.length ∧ i = .int .i64 (t : Int) ∧ n = .int .i64 ((xs.take t).sum : Int) ∧ (xs.take t).sum ≤ 1048576 ∧ wr = w) (fun _ i _ => xs.length - (intOf i).toNat)
  case atStart => exact ⟨0, Nat.zero_le _, rfl, rfl, by simp, rfl⟩
  case round =>
    obtain ⟨t, ht, rfl, rfl, hle, rfl⟩ := hrel
    by_cases hlt : t < xs.length
    · obtain ⟨B, off, rfl, hB, hcc⟩ := CS.out (by rintro rfl; simp at hlt)
      have hcell := hcc t hlt
      have h1 := sum_take_succ xs t hlt
      have h2 := sum_take_le xs (t + 1)
      have h3 := HX.out
      clear hcc
      generalize hq : xs[t] = x at hcell h1 h3
      generalize hp : (xs.take t).sum = s at h1 hle ⊢
      generalize hp3 : (xs.take (t + 1)).sum = s' at h1 h2
      have HP3 := Bx.mk hp3
      clear hp3 hp hq HX CS
      by_cases hgt : 1048576 < s + x
      · go_wp2_with fail
        go_ret
        have : 1048576 < xs.sum := by omega
        simp [this]
      · go_wp2_with fail
        go_roundw
        case rel => exact ⟨t + 1, hlt, by go_num, by rw [HP3.out]; go_num, by rw [HP3.out]; omega, by first | rfl | trivial⟩
        case measure => simp [intOf]; omega
    · obtain rfl : t = xs.length := by omega
      rw [List.take_length] at hle ⊢
      go_wp2_with fail
      go_ret
      have : ¬ 1048576 < xs.sum := by omega
      simp [this]
theorem ints_one (w : World) (k n : Nat) (hn : n = w.heap.size) : Ints (w.alloc (.cells #[.int .i64 (k : Int)] 3)) (.slice (some ⟨n, 0, none⟩) 1 1) [k] := by
  subst hn
  exact ⟨_, 1, rfl, Nat.le_refl _, by simp [maxLen], fun _ => ⟨w.heap.size, 0, rfl, by simp, fun i hi => by
    obtain rfl : i = 0 := by simpa using hi
    rw [World.cell?_alloc_at _ _ _ _ rfl]; rfl⟩⟩
end Go.Proofs.YtbhcaalelfaceaaGreatDoor
end
