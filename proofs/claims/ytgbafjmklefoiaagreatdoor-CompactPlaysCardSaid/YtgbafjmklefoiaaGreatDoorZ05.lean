/- cartulary/hash: Leaf, Empty, Node, one step of a chain; each tells SHA of its bytes. cartulary/hash: Node, Chain. A region that draws: 'return T{}, ErrX' with a result of several cells: a zero row is built and stored while a variable is read; whatever the order, one end. hash.Chain of steps that may not be. cartularylaw05.lives. cartularyref05.bytes: a hash as a text. cartularyref05: LeafText, Leaf, Empty, NodeText, Node. cartularyref05.Chain. A node's hash, in plain words. compact in plain numbers: a row of trees with their hashes; a tree pushed behind it, and joined as long as can be. -/
import Derived.Test.YtgbafjmklefoiaaGreatDoorZ03
import Derived.Test.YtgbafjmklefoiaaGreatDoorZ04
import Derived.Laws.BytesArg
import Derived.BigQuiet
import Derived.Deep.QuietTactic
import Derived.Test.YtgbafjmklefoiaaGreatDoorZ02
import Derived.Orders
import Derived.Laws.Tables
import Derived.WalkKit
import Derived.Stop.BytesEq
import Derived.Laws.Concat
import Derived.Test.YtgbafjmklefoiaaGreatDoorZ01
section
section
namespace Go.Proofs.YtgbafjmklefoiaaGreatDoor
set_option maxRecDepth 100000
open Go.RowKit
/-- bytes as a text -/
def bstr (l : List UInt8) : ByteArray := ⟨l.toArray⟩
theorem sb_bstr (l : List UInt8) : sb (bstr l) = l := by simp [sb, bstr]
theorem bstr_size (l : List UInt8) : (bstr l).size = l.length := by simp [bstr, ByteArray.size]
theorem hszL {L : List UInt8} (h : L.length = 32) : (Tryz.prog.info? 81).map (·.size) = some (ocells L).size := by rw [sizeH, ocells_size, h]
theorem hsoL {L : List UInt8} (h : L.length = 32) : zeros32.size = (ocells L).size := by unfold zeros32; rw [ocells_size, ocells_size, h]; rfl
theorem strs_three (w : World) (s t u : ByteArray) (n : Nat) (hn : n = w.heap.size) : Strs (w.alloc (.cells #[.string s, .string t, .string u] 9)) (.slice (some ⟨n, 0, none⟩) 3 3) [s, t, u] := by
  subst hn
  exact ⟨_, 3, rfl, Nat.le_refl _, by simp [maxLen], fun _ => ⟨w.heap.size, 0, rfl, by simp, fun i hi => er_cellAt (heap_alloc_new _ _) _ _ (by
    match i, hi with
    | 0, _ => rfl
    | 1, _ => rfl
    | 2, _ => rfl
    | n + 3, h => exact absurd h (by simp))⟩⟩
theorem strs_nil (w : World) : Strs w (.slice none 0 0) [] := ⟨none, 0, rfl, Nat.le_refl _, by simp [maxLen], fun h => absurd rfl h⟩
/-- the table of the constants is there, and stays -/
structure TabS (w : World) : Prop where
  tab : Tab w
  lt : 18 < w.heap.size
theorem TabS.below {w w' : World} (h : TabS w) (k : Below w.heap.size w w') : TabS w' :=
  ⟨h.tab.kept (Keep.of_below k (fun _ => False)) h.lt (fun h => h), Nat.lt_of_lt_of_le h.lt k.size⟩
set_option maxHeartbeats 1600000 in
/-- hash.Empty -/
theorem empty_any (w : World) (hT : TabS w) : Calls Tryz.prog 79 #[] w fun e w' => e = .returned (hv (sha [])) ∧ Below w.heap.size w w' := by
  have k1 : Below w.heap.size w (w.alloc (.cells zeros32 81)) := er_al (Below.refl _ _) _
  have r1 : (w.alloc (.cells zeros32 81)).heap[w.heap.size]? = some (.cells zeros32 81 (0, 0)) := heap_alloc_new _ _
  have hc := sum_any (w.alloc (.cells zeros32 81)) _ [] (strs_nil _) (hT.below k1).tab (hT.below k1).lt (by simp [cat])
  have e1 : cat [] = [] := rfl
  rw [e1] at hc
  have HC := Bx.mk hc; have K1 := Bx.mk k1; have R1 := Bx.mk r1
  clear hc k1 r1 e1 hT
  go_enter Tryz.func79, Tryz.ntmps79
  go_upto_region 1 with (fail)
  change Code.wp _ _ _ _ (w.alloc (.cells zeros32 81))
  generalize w.alloc (.cells zeros32 81) = W at HC K1 R1 ⊢
  go_wp2_with fail
  refine HC.out.mono ?_
  rintro e w4 ⟨rfl, hb4⟩
  have hlt := (Array.getElem?_eq_some_iff.1 R1.out).1
  have q1 := (hb4.block w.heap.size hlt).trans R1.out
  have q2 : Below w.heap.size w w4 := K1.out.trans (hb4.mono (Nat.le_of_lt hlt))
  have Q1 := Bx.mk q1; have Q2 := Bx.mk q2; have HSZ := Bx.mk (hszL (sha_length [])); have HSO := Bx.mk (hsoL (sha_length []))
  clear hb4 q1 q2 hlt
  go_wp2_with (refine wpList_store_row rfl 81 (.tmp 0) (.tmp 1) rfl w.heap.size (ocells (sha [])) rfl rfl _ _ Q1.out HSZ.out HSO.out (ocells_one _) ?_)
  refine bodyPost_ret (results_cell_row rfl _ _ w.heap.size _ (ocells (sha [])) _ _ rfl (setRow_heap _ _ _ _ _ _ Q1.out) underH rfl HSZ.out) rfl ⟨rfl, below_setRow Q2.out (Nat.le_refl _) _⟩
end Go.Proofs.YtgbafjmklefoiaaGreatDoor
end
section
namespace Go.Proofs.YtgbafjmklefoiaaGreatDoor
set_option maxRecDepth 100000
open Go.RowKit
/-- 'string(h[:])' -/
theorem str_row {w : World} {B : Nat} {l : List UInt8} {T : TypeId} {fr : Nat × Nat} (h : w.heap[B]? = some (.cells (ocells l) T fr)) (hl : l.length = 32) :
    (convert 116 9 (.slice (some ⟨B, 0, none⟩) 32 32)).run Tryz.prog w = .ok (.string (bstr l)) w := by
  rw [run_convert_bytes_arg w 116 5 underB (by kernel_rfl) B 0 32 32 (l.map fun b => (b.toNat : Int)) (by simpa using hl) (fun i hi => by
    rw [Nat.zero_add]
    refine er_cellAt h i _ ?_
    have hi' : i < l.length := by omega
    simp [ocells, bcells, bcell, List.getD, hi']) 9 (by kernel_rfl)]
  congr 2
  unfold strOfNums bstr
  congr 1
  simp [List.map_map, Function.comp_def]
theorem cat_three (x : UInt8) (a b : List UInt8) : cat [⟨#[x]⟩, bstr a, bstr b] = x :: (a ++ b) := by
  show sb ⟨#[x]⟩ ++ (sb (bstr a) ++ (sb (bstr b) ++ [])) = _
  rw [sb_bstr, sb_bstr, List.append_nil]
  rfl
set_option maxHeartbeats 3200000 in
/-- hash.Node -/
theorem node_any (w : World) (a b : List UInt8) (ha : a.length = 32) (hb : b.length = 32) (hT : TabS w) :
    Calls Tryz.prog 80 #[hv a, hv b] w fun e w' => e = .returned (hv (sha (1 :: (a ++ b)))) ∧ Below w.heap.size w w' := by
  have u0 : (((w.alloc (.cells (ocells a) 81)).alloc (.cells (ocells b) 81)).alloc (.cells zeros32 81)).heap[w.heap.size]? = some (.cells (ocells a) 81 (0, 0)) := by
    rw [Below.heap_alloc _ _ _ (by simp; omega), Below.heap_alloc _ _ _ (by simp)]; exact heap_alloc_new _ _
  have u1 : (((w.alloc (.cells (ocells a) 81)).alloc (.cells (ocells b) 81)).alloc (.cells zeros32 81)).heap[w.heap.size + 1]? = some (.cells (ocells b) 81 (0, 0)) := by
    rw [Below.heap_alloc _ _ _ (by simp)]; simpa using heap_alloc_new (w.alloc (.cells (ocells a) 81)) (.cells (ocells b) 81)
  have u2 : (((w.alloc (.cells (ocells a) 81)).alloc (.cells (ocells b) 81)).alloc (.cells zeros32 81)).heap[w.heap.size + 1 + 1]? = some (.cells zeros32 81 (0, 0)) := by
    simpa using heap_alloc_new ((w.alloc (.cells (ocells a) 81)).alloc (.cells (ocells b) 81)) (.cells zeros32 81)
  have kb : Below w.heap.size w (((w.alloc (.cells (ocells a) 81)).alloc (.cells (ocells b) 81)).alloc (.cells zeros32 81)) := er_al (er_al (er_al (Below.refl _ _) _) _) _
  have us : (((w.alloc (.cells (ocells a) 81)).alloc (.cells (ocells b) 81)).alloc (.cells zeros32 81)).heap.size = w.heap.size + 1 + 1 + 1 := by simp
  have tb := hT.below kb
  unfold hv
  go_enter Tryz.func80, Tryz.ntmps80
  go_upto_region 1 with (fail)
  change Code.wp _ _ _ _ (((w.alloc (.cells (ocells a) 81)).alloc (.cells (ocells b) 81)).alloc (.cells zeros32 81))
  generalize ((w.alloc (.cells (ocells a) 81)).alloc (.cells (ocells b) 81)).alloc (.cells zeros32 81) = W at u0 u1 u2 kb us tb ⊢
  have k1 := fun n => str_row (w := W.drewN n) u0 ha
  have k2 := fun n => str_row (w := W.drewN n) u1 hb
  have U2 := Bx.mk u2; have KB := Bx.mk kb; have US := Bx.mk us; have TB := Bx.mk tb
  clear u2 kb us tb hT u0 u1
  refine wp_region_quiet_tail (C := fun w' => ∃ n, w' = W.drewN n) 4 (by kernel_rfl) (by kernel_rfl) ⟨1, rfl⟩ ?_
  simp only [List.take_succ_cons, List.take_zero, List.drop_succ_cons, List.drop_zero]
  repeat go_big_quiet_step (fail)
  refine wpQuiet_nil ?_
  intro _ hw'
  obtain ⟨nr, hw''⟩ := hw'
  subst hw''
  have kn : Below W.heap.size W (W.drewN nr) := ⟨rfl, rfl, rfl, Nat.le_refl _, fun _ _ => rfl⟩
  have k3 := er_al kn (.cells #[.string ⟨#[1]⟩, .string (bstr a), .string (bstr b)] 9)
  have hc := sum_any ((W.drewN nr).alloc (.cells #[.string ⟨#[1]⟩, .string (bstr a), .string (bstr b)] 9)) _ [⟨#[1]⟩, bstr a, bstr b] (strs_three (W.drewN nr) _ _ _ _ rfl) (TB.out.below k3).tab (TB.out.below k3).lt (by rw [cat_three]; simp; omega)
  rw [cat_three] at hc
  have HC := Bx.mk hc; have K3 := Bx.mk k3
  clear hc k3 kn k1 k2
  go_wp2_with fail
  refine HC.out.mono ?_
  rintro e w4 ⟨rfl, hb4⟩
  have hlt := (Array.getElem?_eq_some_iff.1 U2.out).1
  have q1 := (hb4.block (w.heap.size + 1 + 1) (Nat.lt_of_lt_of_le hlt K3.out.size)).trans ((K3.out.block _ hlt).trans U2.out)
  have q2 : Below w.heap.size w w4 := KB.out.trans ((K3.out.mono KB.out.size).trans (hb4.mono (Nat.le_trans KB.out.size K3.out.size)))
  have Q1 := Bx.mk q1; have Q2 := Bx.mk q2; have HSZ := Bx.mk (hszL (sha_length (1 :: (a ++ b)))); have HSO := Bx.mk (hsoL (sha_length (1 :: (a ++ b))))
  clear hb4 q1 q2 hlt
  go_wp2_with (refine wpList_store_row rfl 81 (.tmp 4) (.tmp 10) rfl (w.heap.size + 1 + 1) (ocells (sha (1 :: (a ++ b)))) rfl rfl _ _ Q1.out HSZ.out HSO.out (ocells_one _) ?_)
  refine bodyPost_ret (results_cell_row rfl _ _ (w.heap.size + 1 + 1) _ (ocells (sha (1 :: (a ++ b)))) _ _ rfl (setRow_heap _ _ _ _ _ _ Q1.out) underH rfl HSZ.out) rfl ⟨rfl, below_setRow Q2.out (by omega) _⟩
end Go.Proofs.YtgbafjmklefoiaaGreatDoor
end
section
namespace Go.Proofs.YtgbafjmklefoiaaGreatDoor
open Go.RowKit
section
variable {P : Program} {Q : Exit → Act → World → Prop}
end
end Go.Proofs.YtgbafjmklefoiaaGreatDoor
end
section
namespace Go.Proofs.YtgbafjmklefoiaaGreatDoor
set_option maxRecDepth 100000
open Go.RowKit
def zero32' : List UInt8 := List.replicate 32 0
end Go.Proofs.YtgbafjmklefoiaaGreatDoor
end
section
namespace Go.Proofs.YtgbafjmklefoiaaGreatDoor
set_option maxRecDepth 100000
open Go.RowKit
theorem hv_eq (w : World) (a b : List UInt8) (ha : a.length = 32) (hb : b.length = 32) : (binOp .eql 81 (hv a) (hv b)).run Tryz.prog w = .ok (.bool (a == b)) w :=
  run_eql_bytes w 81 5 32 underH (by kernel_rfl) (fun _ => by kernel_rfl) a b ha hb
theorem hv_agg (a : List UInt8) : hv a = .agg (ocells a) := rfl
/-- a row of a hash, new in memory -/
def HashAt (w : World) (n : Nat) (l : List UInt8) : Prop := w.heap[n]? = some (.cells (ocells l) 81 (0, 0)) ∧ l.length = 32
theorem HashAt.lt {w : World} {n : Nat} {l : List UInt8} (h : HashAt w n l) : n < w.heap.size := (Array.getElem?_eq_some_iff.1 h.1).1
theorem HashAt.below {w w' : World} {n : Nat} {l : List UInt8} (h : HashAt w n l) (k : Below w.heap.size w w') : HashAt w' n l := ⟨(k.block n h.lt).trans h.1, h.2⟩
theorem HashAt.new (w : World) (l : List UInt8) (hl : l.length = 32) : HashAt (w.alloc (.cells (ocells l) 81)) w.heap.size l := ⟨heap_alloc_new _ _, hl⟩
theorem HashAt.cell {w : World} {n : Nat} {l : List UInt8} (h : HashAt w n l) (i : Nat) (c : Int) (hc : (ocells l)[i]? = some (.int .u8 c)) : w.cell? ⟨n, i, none⟩ = some (.int .u8 c) := er_cellAt h.1 _ _ hc
/-- what a law of chapter 05 keeps of the world -/
structure Hs (A : Nat → Addr) (w : World) : Prop where
  tab : TabS w
  err : Errs w A
theorem Hs.below {A : Nat → Addr} {w w' : World} (h : Hs A w) (k : Below w.heap.size w w') : Hs A w' := ⟨h.tab.below k, h.err.below k⟩
end Go.Proofs.YtgbafjmklefoiaaGreatDoor
end
section
namespace Go.Proofs.YtgbafjmklefoiaaGreatDoor
set_option maxRecDepth 100000
open Go.RowKit
theorem str_src {w : World} {v : Value} {l : List UInt8} (h : Src w v l) (hl : l ≠ []) : (convert 116 9 v).run Tryz.prog w = .ok (.string (bstr l)) w := by
  obtain ⟨a, c, rfl, _, _, _, h3⟩ := h
  obtain ⟨B, off, rfl, _, hc⟩ := h3 hl
  rw [run_convert_bytes_arg w 116 5 underB (by kernel_rfl) B off l.length c (l.map fun b => (b.toNat : Int)) (by simp) (fun i hi => by
    rw [hc i hi]
    simp [bcell, List.getD, hi]) 9 (by kernel_rfl)]
  congr 2
  unfold strOfNums bstr
  congr 1
  simp [List.map_map, Function.comp_def]
set_option maxHeartbeats 1600000 in
theorem rbytes_any (w : World) (a : List UInt8) (ha : a.length = 32) : Calls Tryz.prog 160 #[hv a] w fun e w' => e = .returned (.string (bstr a)) ∧ Below w.heap.size w w' := by
  have x0 := HashAt.new w a ha
  have b0 : Below w.heap.size w (w.alloc (.cells (ocells a) 81)) := er_al (Below.refl _ _) _
  obtain ⟨i0, hi, hz0, hz1, hz2⟩ := info_parts info8
  have RI := Bx.mk (And.intro hi (And.intro hz0 (And.intro hz1 hz2)))
  have HA := Bx.mk ha
  clear hi hz0 hz1 hz2 ha
  unfold hv
  go_enter Tryz.func160, Tryz.ntmps160
  go_upto_region 1 with (fail)
  change Code.wp _ _ _ _ (w.alloc (.cells (ocells a) 81))
  generalize w.alloc (.cells (ocells a) 81) = W at x0 b0 ⊢
  have X0 := Bx.mk x0; have B0 := Bx.mk b0; clear x0 b0
  go_wp2_with fail
  go_loopw [3, 4] (fun v i wr => ∃ t : Nat, t ≤ 32 ∧ i = .int .i64 (t : Int) ∧ Below W.heap.size W wr ∧ OwnF W.heap.size wr v (a.take t)) (fun _ i _ => 32 - (intOf i).toNat)
  case atStart => exact ⟨0, Nat.zero_le _, rfl, Below.refl _ _, .inl ⟨rfl, rfl⟩⟩
  case round =>
    obtain ⟨t, ht, rfl, hb, ho⟩ := hrel
    have hln : (a.take t).length = t := by rw [List.length_take, HA.out]; omega
    have HLN := Bx.mk hln
    by_cases hlt : t < 32
    · obtain ⟨a3, c3, rfl, q1, q2, q3⟩ := ho.shape
      have hta : t < a.length := by rw [HA.out]; exact hlt
      have hcell : wr.cell? ⟨w.heap.size, t, none⟩ = some (.int .u8 (a[t].toNat : Int)) := er_cellAt (X0.out.below hb).1 _ _ (by simp [ocells, bcells, bcell, hta])
      generalize hat : a[t] = at' at hcell
      have hstep : a.take (t + 1) = a.take t ++ [at'] := by rw [List.take_succ_eq_append_getElem hta, hat]
      have q4 := ho.kept (Keep.alloc (fun _ => False) wr (.cells #[.int .u8 (at'.toNat : Int)] 5)) (fun _ _ h => h)
      have q5 := one_cell wr (.int .u8 (at'.toNat : Int)) rfl wr.heap.size rfl
      have q6 : (a.take t).length + 1 ≤ 140737488355328 := by rw [hln]; omega
      have q7 : W.heap.size ≤ (wr.alloc (.cells #[.int .u8 (at'.toNat : Int)] 5)).heap.size := Nat.le_trans hb.size (by simp)
      have HB := Bx.mk hb; have HO := Bx.mk ho; have Q4 := Bx.mk q4; have Q5 := Bx.mk q5; have Q6 := Bx.mk q6; have Q7 := Bx.mk q7; have HS := Bx.mk hstep
      clear hb ho q1 q2 q3 q4 q5 q6 q7 hstep hat hta hln
      go_wp2_with (refine wpList_append_F rfl (.tmp 9) (.tmp 13) 116 rfl W.heap.size 5 i0 (.int .u8 0) underB RI.out.1 RI.out.2.1 RI.out.2.2.1 RI.out.2.2.2 rfl rfl (.slice a3 (a.take t).length c3) (a.take t) rfl Q4.out (some ⟨wr.heap.size, 0, none⟩) 1 1 [at'] rfl rfl (by simp) Q5.out Q6.out Q7.out ?_; intro v' w2 ho1 hg1 hf1; have G1 := Bx.mk hg1; have O1 := Bx.mk ho1; clear ho1 hg1 hf1)
      go_roundw
      case rel =>
        refine ⟨t + 1, hlt, by go_num, (er_al HB.out _).grown G1.out (Nat.le_trans HB.out.size (by simp)) (fun k hk => (HO.out.fresh k hk).1), ?_⟩
        rw [HS.out]
        exact O1.out
      case measure => simp [intOf]; omega
    · obtain rfl : t = 32 := by omega
      have hta : a.take 32 = a := List.take_of_length_le (by rw [HA.out]; exact Nat.le_refl _)
      rw [hta] at ho
      have hs := str_src ho.src (by intro h; have := HA.out; rw [h] at this; cases this)
      obtain ⟨a3, c3, rfl, q1, q2, q3⟩ := ho.shape
      have HB := Bx.mk hb
      clear hb ho q1 q2 q3 hta hln
      go_wp2_with fail
      go_ret
      exact ⟨rfl, B0.out.trans (HB.out.mono B0.out.size)⟩
end Go.Proofs.YtgbafjmklefoiaaGreatDoor
end
section
namespace Go.Proofs.YtgbafjmklefoiaaGreatDoor
set_option maxRecDepth 100000
open Go.RowKit
theorem sb_app (s t : ByteArray) : sb (s ++ t) = sb s ++ sb t := by simp [sb]
set_option maxHeartbeats 1600000 in
theorem rempty_any (w : World) : Calls Tryz.prog 92 #[] w fun e w' => e = .returned (hv (sha [])) ∧ Below w.heap.size w w' := by
  have k1 : Below w.heap.size w (w.alloc (.cells zeros32 81)) := er_al (Below.refl _ _) _
  have r1 : (w.alloc (.cells zeros32 81)).heap[w.heap.size]? = some (.cells zeros32 81 (0, 0)) := heap_alloc_new _ _
  have hc := rsum_any (w.alloc (.cells zeros32 81)) ⟨#[]⟩ (by decide)
  rw [show sb ⟨#[]⟩ = [] from rfl] at hc
  have HC := Bx.mk hc; have K1 := Bx.mk k1; have R1 := Bx.mk r1
  clear hc k1 r1
  go_enter Tryz.func92, Tryz.ntmps92
  go_upto_region 1 with (fail)
  change Code.wp _ _ _ _ (w.alloc (.cells zeros32 81))
  generalize w.alloc (.cells zeros32 81) = W at HC K1 R1 ⊢
  go_wp2_with fail
  refine HC.out.mono ?_
  rintro e w4 ⟨rfl, hb4⟩
  have hlt := (Array.getElem?_eq_some_iff.1 R1.out).1
  have q1 := (hb4.block w.heap.size hlt).trans R1.out
  have q2 : Below w.heap.size w w4 := K1.out.trans (hb4.mono (Nat.le_of_lt hlt))
  have Q1 := Bx.mk q1; have Q2 := Bx.mk q2; have HSZ := Bx.mk (hszL (sha_length [])); have HSO := Bx.mk (hsoL (sha_length []))
  clear hb4 q1 q2 hlt
  go_wp2_with (refine wpList_store_row rfl 81 (.tmp 0) (.tmp 1) rfl w.heap.size (ocells (sha [])) rfl rfl _ _ Q1.out HSZ.out HSO.out (ocells_one _) ?_)
  refine bodyPost_ret (results_cell_row rfl _ _ w.heap.size _ (ocells (sha [])) _ _ rfl (setRow_heap _ _ _ _ _ _ Q1.out) underH rfl HSZ.out) rfl ⟨rfl, below_setRow Q2.out (Nat.le_refl _) _⟩
set_option maxHeartbeats 3200000 in
theorem nodeText_any (w : World) (a b : List UInt8) (ha : a.length = 32) (hb : b.length = 32) : Calls Tryz.prog 148 #[hv a, hv b] w fun e w' => e = .returned (.string (⟨#[1]⟩ ++ bstr a ++ bstr b)) ∧ Below w.heap.size w w' := by
  have x0 := (HashAt.new w a ha).below (er_al (Below.refl _ _) (.cells (ocells b) 81))
  have x1 := HashAt.new (w.alloc (.cells (ocells a) 81)) b hb
  rw [show (w.alloc (.cells (ocells a) 81)).heap.size = w.heap.size + 1 by simp] at x1
  have kb : Below w.heap.size w ((w.alloc (.cells (ocells a) 81)).alloc (.cells (ocells b) 81)) := er_al (er_al (Below.refl _ _) _) _
  unfold hv
  go_enter Tryz.func148, Tryz.ntmps148
  go_upto_region 1 with (fail)
  change Code.wp _ _ _ _ ((w.alloc (.cells (ocells a) 81)).alloc (.cells (ocells b) 81))
  generalize (w.alloc (.cells (ocells a) 81)).alloc (.cells (ocells b) 81) = W at x0 x1 kb ⊢
  have r0 : ∀ u, BlwC W.heap.size W u → u.heap[w.heap.size]? = some (.cells (ocells a) 81 (0, 0)) := fun u ⟨u', hu⟩ => by subst hu; exact (x0.below u'.h).1
  have r1 : ∀ u, BlwC W.heap.size W u → u.heap[w.heap.size + 1]? = some (.cells (ocells b) 81 (0, 0)) := fun u ⟨u', hu⟩ => by subst hu; exact (x1.below u'.h).1
  have c0 := fun u (_ : Below W.heap.size W u) => rbytes_any u a ha
  have c1 := fun u (_ : Below W.heap.size W u) => rbytes_any u b hb
  have ne := Blw.ne W.heap.size W
  have R0' := Bx.mk r0; have R1' := Bx.mk r1; have C0 := Bx.mk c0; have C1 := Bx.mk c1; have KB := Bx.mk kb; have HA := Bx.mk ha; have HB := Bx.mk hb
  clear x0 x1 kb r0 r1 c0 c1 ha hb
  refine wp_region_quiet_c (C := fun w' => ∃ u : Blw W.heap.size W, w' = u.w) (by kernel_rfl) (by kernel_rfl) ⟨⟨_, (Below.refl _ _).drew⟩, rfl⟩ ?_
  refine wpQuiet_load_row rfl 81 (.tmp 2) rfl w.heap.size rfl 81 (ocells a) (0, 0) _ R0'.out underH rfl (hszL HA.out) ?_
  simp only [Act.put, List.setIfInBounds_toArray, List.set_cons_succ, List.set_cons_zero]
  go_big_quiet_step (exact Calls.blw (Nat.le_refl _) C0.out)
  have h1 := fun u => run_string_add_sum (P := Tryz.prog) u ⟨#[1]⟩ (bstr a) (by rw [bstr_size, HA.out]; decide)
  have h2 := fun u => run_string_add_sum (P := Tryz.prog) u (⟨#[1]⟩ ++ bstr a) (bstr b) (by rw [ByteArray.size_append, bstr_size, bstr_size, HA.out, HB.out]; decide)
  go_big_quiet_step (fail)
  go_big_quiet_want
  refine quiet_load_row 81 (.tmp 3) rfl (w.heap.size + 1) rfl 81 (ocells b) (0, 0) _ R1'.out underH rfl (hszL HB.out) ?_
  go_big_quiet_on
  simp only [Act.put, List.setIfInBounds_toArray, List.set_cons_succ, List.set_cons_zero]
  go_big_quiet_step (exact Calls.blw (Nat.le_refl _) C1.out)
  go_big_quiet_step (fail)
  go_big_quiet_step (fail)
  refine wpQuiet_nil ?_
  rintro _ ⟨u, rfl⟩
  go_wp2_with fail
  go_ret
  exact ⟨rfl, KB.out.trans (u.h.mono KB.out.size)⟩
set_option maxHeartbeats 3200000 in
theorem rnode_any (w : World) (a b : List UInt8) (ha : a.length = 32) (hb : b.length = 32) : Calls Tryz.prog 134 #[hv a, hv b] w fun e w' => e = .returned (hv (sha (1 :: (a ++ b)))) ∧ Below w.heap.size w w' := by
  have x0 := ((HashAt.new w a ha).below (er_al (Below.refl _ _) (.cells (ocells b) 81))).below (er_al (Below.refl _ _) (.cells zeros32 81))
  have x1 := HashAt.new (w.alloc (.cells (ocells a) 81)) b hb
  rw [show (w.alloc (.cells (ocells a) 81)).heap.size = w.heap.size + 1 by simp] at x1
  have x1' := x1.below (er_al (Below.refl _ _) (.cells zeros32 81))
  have x2 : (((w.alloc (.cells (ocells a) 81)).alloc (.cells (ocells b) 81)).alloc (.cells zeros32 81)).heap[w.heap.size + 1 + 1]? = some (.cells zeros32 81 (0, 0)) := by
    simpa using heap_alloc_new ((w.alloc (.cells (ocells a) 81)).alloc (.cells (ocells b) 81)) (.cells zeros32 81)
  have kb : Below w.heap.size w (((w.alloc (.cells (ocells a) 81)).alloc (.cells (ocells b) 81)).alloc (.cells zeros32 81)) := er_al (er_al (er_al (Below.refl _ _) _) _) _
  have us : (((w.alloc (.cells (ocells a) 81)).alloc (.cells (ocells b) 81)).alloc (.cells zeros32 81)).heap.size = w.heap.size + 1 + 1 + 1 := by simp
  have HA := Bx.mk ha; have HB := Bx.mk hb
  clear x1 ha hb
  unfold hv
  go_enter Tryz.func134, Tryz.ntmps134
  go_upto_region 1 with (fail)
  change Code.wp _ _ _ _ (((w.alloc (.cells (ocells a) 81)).alloc (.cells (ocells b) 81)).alloc (.cells zeros32 81))
  generalize ((w.alloc (.cells (ocells a) 81)).alloc (.cells (ocells b) 81)).alloc (.cells zeros32 81) = W at x0 x1' x2 kb us ⊢
  have c0 := nodeText_any W a b HA.out HB.out
  have c1 := fun u => rsum_any u (⟨#[1]⟩ ++ bstr a ++ bstr b) (by rw [ByteArray.size_append, ByteArray.size_append, bstr_size, bstr_size, HA.out, HB.out]; decide)
  rw [sb_app, sb_app, sb_bstr, sb_bstr, show sb ⟨#[1]⟩ ++ a ++ b = 1 :: (a ++ b) from rfl] at c1
  have C0 := Bx.mk c0; have C1 := Bx.mk c1; have X0 := Bx.mk x0; have X1 := Bx.mk x1'; have X2 := Bx.mk x2; have KB := Bx.mk kb; have US := Bx.mk us
  clear c0 c1 x0 x1' x2 kb us
  go_wp2_with (first
    | refine wpList_load_row rfl 81 (.tmp 2) rfl w.heap.size rfl _ _ _ _ X0.out.1 underH rfl (hszL HA.out) ?_
    | refine wpList_load_row rfl 81 (.tmp 3) rfl (w.heap.size + 1) rfl _ _ _ _ X1.out.1 underH rfl (hszL HB.out) ?_)
  refine C0.out.mono ?_
  rintro e w1 ⟨rfl, hb1⟩
  have HB1 := Bx.mk hb1; clear hb1
  go_wp2_with fail
  refine (C1.out _).mono ?_
  rintro e w4 ⟨rfl, hb4⟩
  have hlt := (Array.getElem?_eq_some_iff.1 X2.out).1
  have q1 := (hb4.block _ (Nat.lt_of_lt_of_le hlt HB1.out.size)).trans ((HB1.out.block _ hlt).trans X2.out)
  have q2 : Below w.heap.size w w4 := KB.out.trans ((HB1.out.mono KB.out.size).trans (hb4.mono (Nat.le_trans KB.out.size HB1.out.size)))
  have Q1 := Bx.mk q1; have Q2 := Bx.mk q2; have HSZ := Bx.mk (hszL (sha_length (1 :: (a ++ b)))); have HSO := Bx.mk (hsoL (sha_length (1 :: (a ++ b))))
  clear hb4 q1 q2 hlt
  go_wp2_with (refine wpList_store_row rfl 81 (.tmp 4) (.tmp 8) rfl (w.heap.size + 1 + 1) (ocells (sha (1 :: (a ++ b)))) rfl rfl _ _ Q1.out HSZ.out HSO.out (ocells_one _) ?_)
  refine bodyPost_ret (results_cell_row rfl _ _ (w.heap.size + 1 + 1) _ (ocells (sha (1 :: (a ++ b)))) _ _ rfl (setRow_heap _ _ _ _ _ _ Q1.out) underH rfl HSZ.out) rfl ⟨rfl, below_setRow Q2.out (by omega) _⟩
end Go.Proofs.YtgbafjmklefoiaaGreatDoor
end
section
namespace Go.Proofs.YtgbafjmklefoiaaGreatDoor
set_option maxRecDepth 100000
open Go.RowKit
theorem er_frozen {w : World} {g : Nat} {cs : Array Value} {T : TypeId} (h : w.heap[g]? = some (.cells cs T (0, 0))) (j : Nat) : w.frozen? ⟨g, j, none⟩ = false := by
  simp [World.frozen?, h]
end Go.Proofs.YtgbafjmklefoiaaGreatDoor
end
end
section
namespace Go.Proofs.YtgbafjmklefoiaaGreatDoor
/-- a node's hash -/
def nd (a b : List UInt8) : List UInt8 := sha (1 :: (a ++ b))
theorem nd_length (a b : List UInt8) : (nd a b).length = 32 := sha_length _
end Go.Proofs.YtgbafjmklefoiaaGreatDoor
end
section
namespace Go.Proofs.YtgbafjmklefoiaaGreatDoor
/-- the hash of a whole tree over these leaves -/
def trC (f : Nat → List UInt8) : Nat → Nat → List UInt8
  | 0, I => f I
  | L + 1, I => nd (trC f L (2 * I)) (trC f L (2 * I + 1))
def coC (p : Nat × Nat × List UInt8) : Nat × Nat := (p.1, p.2.1)
/-- do both have a parent, and the same one? -/
def joinC (a n : Nat × Nat × List UInt8) : Bool := upK a.1 a.2.1 && upK n.1 n.2.1 && decide (upL a.1 a.2.1 = upL n.1 n.2.1 ∧ upI a.1 a.2.1 = upI n.1 n.2.1)
def upC1 (a n : Nat × Nat × List UInt8) : Nat × Nat × List UInt8 := (upL a.1 a.2.1, upI a.1 a.2.1, nd a.2.2 n.2.2)
/-- behind a row that lies the other way round -/
def pushR : List (Nat × Nat × List UInt8) → Nat × Nat × List UInt8 → List (Nat × Nat × List UInt8)
  | [], n => [n]
  | a :: l, n => if joinC a n then pushR l (upC1 a n) else n :: a :: l
def pushN (l : List (Nat × Nat × List UInt8)) (n : Nat × Nat × List UInt8) : List (Nat × Nat × List UInt8) := (pushR l.reverse n).reverse
theorem pushN_nil (n : Nat × Nat × List UInt8) : pushN [] n = [n] := rfl
theorem pushN_snoc (l : List (Nat × Nat × List UInt8)) (a n : Nat × Nat × List UInt8) : pushN (l ++ [a]) n = if joinC a n then pushN l (upC1 a n) else l ++ [a] ++ [n] := by
  unfold pushN
  rw [List.reverse_append, List.reverse_singleton, List.singleton_append, pushR]
  split
  · rfl
  · simp
theorem pushR_mem {l : List (Nat × Nat × List UInt8)} (h : ∀ x ∈ l, x.2.2.length = 32) : ∀ {n : Nat × Nat × List UInt8}, n.2.2.length = 32 → ∀ x ∈ pushR l n, x.2.2.length = 32 := by
  induction l with
  | nil => intro n hn x hx; rw [pushR, List.mem_singleton] at hx; rw [hx]; exact hn
  | cons a l ih =>
    intro n hn x hx
    rw [pushR] at hx
    split at hx
    · exact ih (fun y hy => h y (List.mem_cons_of_mem _ hy)) (n := upC1 a n) (nd_length _ _) x hx
    · rcases List.mem_cons.1 hx with rfl | hx
      · exact hn
      · exact h x hx
theorem pushN_mem {l : List (Nat × Nat × List UInt8)} (h : ∀ x ∈ l, x.2.2.length = 32) {n : Nat × Nat × List UInt8} (hn : n.2.2.length = 32) : ∀ x ∈ pushN l n, x.2.2.length = 32 := by
  intro x hx
  unfold pushN at hx
  exact pushR_mem (fun y hy => h y (List.mem_reverse.1 hy)) hn x (List.mem_reverse.1 hx)
theorem pushR_len (l : List (Nat × Nat × List UInt8)) : ∀ n, (pushR l n).length ≤ l.length + 1 := by
  induction l with
  | nil => intro n; simp [pushR]
  | cons a l ih =>
    intro n
    rw [pushR]
    split
    · have := ih (upC1 a n); simp; omega
    · simp
theorem pushN_len (l : List (Nat × Nat × List UInt8)) (n : Nat × Nat × List UInt8) : (pushN l n).length ≤ l.length + 1 := by
  unfold pushN
  have := pushR_len l.reverse n
  rw [List.length_reverse] at this ⊢
  exact this
def GoodC (f : Nat → List UInt8) (l : List (Nat × Nat × List UInt8)) : Prop := ∀ p ∈ l, p.2.2 = trC f p.1 p.2.1
/-- a tree pushed behind a row without neighbours that are both halves of one -/
theorem push_law (f : Nat → List UInt8) {b e : Nat} (he : e ≤ 2 ^ 63) : ∀ (k : Nat) (l : List (Nat × Nat × List UInt8)) (n : Nat × Nat × List UInt8), l.length = k → Tile b e ((l ++ [n]).map coC) → Norm (l.map coC) → GoodC f l → n.2.2 = trC f n.1 n.2.1 →
    Tile b e ((pushN l n).map coC) ∧ Norm ((pushN l n).map coC) ∧ GoodC f (pushN l n) := by
  intro k
  induction k with
  | zero =>
    intro l n hl ht hn hg hp
    obtain rfl := List.length_eq_zero_iff.1 hl
    refine ⟨ht, trivial, fun p hp' => ?_⟩
    rw [pushN_nil, List.mem_singleton] at hp'
    rw [hp']; exact hp
  | succ k ih =>
    intro l n hl ht hn hg hp
    obtain ⟨l', a, rfl⟩ : ∃ l' a, l = l' ++ [a] := ⟨l.dropLast, l.getLast (fun e => by rw [e] at hl; simp at hl), (List.dropLast_concat_getLast _).symm⟩
    have hl' : l'.length = k := by simpa using hl
    have ht2 : Tile b e (l'.map coC ++ [coC a, coC n]) := by simpa using ht
    have hj := join_iff ht2 he
    have hga : a.2.2 = trC f a.1 a.2.1 := hg a (by simp)
    rw [pushN_snoc]
    by_cases h : joinC a n = true
    · rw [if_pos h]
      unfold joinC at h
      simp only [Bool.and_eq_true, decide_eq_true_eq] at h
      obtain ⟨⟨h1, h2⟩, h3, h4⟩ := h
      have hs : Sibs (coC a) (coC n) := hj.1 ⟨h2, h1, h3.symm, h4.symm⟩
      obtain ⟨u1, u2, _, _⟩ := up_of h1
      have ht3 := tile_join ht2 he hs
      obtain ⟨s1, s2, s3⟩ := hs
      refine ih l' (upC1 a n) hl' ?_ ?_ (fun p hp' => hg p (by simp [hp'])) ?_
      · rw [List.map_append]
        have e1 : coC (upC1 a n) = ((coC a).1 + 1, (coC a).2 / 2) := by unfold upC1 coC; simp only; rw [u1, u2]
        rw [List.map_singleton, e1]
        exact ht3
      · rw [List.map_append] at hn
        exact norm_init hn
      · show nd a.2.2 n.2.2 = trC f (upL a.1 a.2.1) (upI a.1 a.2.1)
        rw [u1, u2, hga, hp]
        simp only [coC] at s1 s2 s3
        show _ = nd (trC f a.1 (2 * (a.2.1 / 2))) (trC f a.1 (2 * (a.2.1 / 2) + 1))
        rw [show 2 * (a.2.1 / 2) = a.2.1 by omega, ← s3, ← s1]
    · rw [if_neg h]
      have hns : ¬ Sibs (coC a) (coC n) := fun hs => h (by
        obtain ⟨k1, k2, k3, k4⟩ := hj.2 hs
        unfold joinC
        simp only [Bool.and_eq_true, decide_eq_true_eq]
        exact ⟨⟨k2, k1⟩, k3.symm, k4.symm⟩)
      refine ⟨by simpa using ht2, ?_, fun p hp' => ?_⟩
      · rw [List.map_append] at hn
        have := norm_snoc hn hns
        simpa using this
      · rcases List.mem_append.1 hp' with h1 | h1
        · exact hg p h1
        · rw [List.mem_singleton] at h1
          rw [h1]; exact hp
/-- the row of a stretch -/
def rowC (f : Nat → List UInt8) (b e : Nat) : List (Nat × Nat × List UInt8) := (coverN b e).map fun c => (c.1, c.2, trC f c.1 c.2)
theorem rowC_co (f : Nat → List UInt8) (b e : Nat) : (rowC f b e).map coC = coverN b e := by
  unfold rowC
  rw [List.map_map]
  have : (coC ∘ fun c : Nat × Nat => (c.1, c.2, trC f c.1 c.2)) = id := by funext c; rfl
  rw [this, List.map_id]
theorem rowC_good (f : Nat → List UInt8) (b e : Nat) : GoodC f (rowC f b e) := by
  intro p hp
  obtain ⟨c, _, rfl⟩ := List.mem_map.1 hp
  rfl
theorem rowC_of (f : Nat → List UInt8) {b e : Nat} {l : List (Nat × Nat × List UInt8)} (h : l.map coC = coverN b e) (hg : GoodC f l) : l = rowC f b e := by
  unfold rowC
  rw [← h, List.map_map]
  conv => lhs; rw [← List.map_id l]
  refine List.map_congr_left fun p hp => ?_
  show p = (p.1, p.2.1, trC f p.1 p.2.1)
  rw [← hg p hp]
theorem push_row (f : Nat → List UInt8) {b L I : Nat} (hb : b ≤ I * 2 ^ L) (hL : L ≤ 63) (he : I * 2 ^ L + 2 ^ L ≤ 2 ^ 63) : pushN (rowC f b (I * 2 ^ L)) (L, I, trC f L I) = rowC f b (I * 2 ^ L + 2 ^ L) := by
  have hp := Nat.two_pow_pos L
  have ht : Tile b (I * 2 ^ L + 2 ^ L) ((rowC f b (I * 2 ^ L) ++ [(L, I, trC f L I)]).map coC) := by
    rw [List.map_append, rowC_co]
    exact tile_append (cover_tile _ (Nat.le_refl _) hb (by omega)) ⟨hL, rfl, rfl⟩
  obtain ⟨h1, h2, h3⟩ := push_law f he _ (rowC f b (I * 2 ^ L)) (L, I, trC f L I) rfl ht (by rw [rowC_co]; exact cover_norm _ (Nat.le_refl _) (by omega)) (rowC_good f b _) rfl
  exact rowC_of f (norm_unique _ h1 h2 he) h3
theorem push_leaf (f : Nat → List UInt8) {b E : Nat} (hb : b ≤ E) (he : E < 2 ^ 63) : pushN (rowC f b E) (0, E, f E) = rowC f b (E + 1) := by
  have := push_row f (b := b) (L := 0) (I := E) (by simpa using hb) (by decide) (by simp; omega)
  simpa [trC] using this
/-- a row pushed behind another, tree by tree -/
theorem push_rows (f : Nat → List UInt8) {b : Nat} : ∀ (l : List (Nat × Nat × List UInt8)) {m e : Nat}, b ≤ m → Tile m e (l.map coC) → GoodC f l → e ≤ 2 ^ 63 → l.foldl pushN (rowC f b m) = rowC f b e
  | [], m, e, _, ht, _, _ => by rw [show m = e from ht]; rfl
  | p :: l, m, e, hb, ht, hg, he => by
    obtain ⟨h1, h2, h3⟩ := (show Tile m e ((p.1, p.2.1) :: l.map coC) from ht)
    simp only at h1 h2 h3
    have h4 := h3.le
    have hp : p = (p.1, p.2.1, trC f p.1 p.2.1) := by
      have := hg p (by simp)
      rw [← this]
    rw [List.foldl_cons, hp, h2, push_row f (by omega) h1 (by omega)]
    refine push_rows f l (Nat.le_trans hb (by rw [h2]; exact Nat.le_add_right _ _)) ?_ (fun q hq => hg q (by simp [hq])) he
    rw [h2] at h3
    exact h3
theorem join_rows (f : Nat → List UInt8) {b m e : Nat} (hb : b ≤ m) (hm : m ≤ e) (he : e ≤ 2 ^ 63) : (rowC f m e).foldl pushN (rowC f b m) = rowC f b e :=
  push_rows f _ hb (by rw [rowC_co]; exact cover_tile _ (Nat.le_refl _) hm he) (rowC_good f m e) he
end Go.Proofs.YtgbafjmklefoiaaGreatDoor
end
