/- cartulary/hash: Leaf, Empty, Node, one step of a chain; each tells SHA of its bytes. cartulary/hash: Node, Chain. A region that draws: 'return T{}, ErrX' with a result of several cells: a zero row is built and stored while a variable is read; whatever the order, one end. hash.Chain of steps that may not be. cartularylaw05.lives. cartularyref05.bytes: a hash as a text. cartularyref05: LeafText, Leaf, Empty, NodeText, Node. cartularyref05.Chain. -/
import Derived.Test.YtbhcaalelfaceaaGreatDoorG2
import Derived.Test.YtbhcaalelfaceaaGreatDoorG3
import Derived.Laws.BytesArg
import Derived.BigQuiet
import Derived.Deep.QuietTactic
import Derived.Test.YtbhcaalelfaceaaGreatDoorG1
import Derived.Orders
import Derived.Laws.Tables
import Derived.WalkKit
import Derived.Stop.BytesEq
import Derived.Laws.Concat
section
namespace Go.Proofs.YtbhcaalelfaceaaGreatDoor
set_option maxRecDepth 100000
open Go.RowKit
/-- bytes as a text -/
def bstr (l : List UInt8) : ByteArray := ⟨l.toArray⟩
theorem sb_bstr (l : List UInt8) : sb (bstr l) = l := by simp [sb, bstr]
theorem bstr_size (l : List UInt8) : (bstr l).size = l.length := by simp [bstr, ByteArray.size]
theorem hszL {L : List UInt8} (h : L.length = 32) : (Tryz.prog.info? 66).map (·.size) = some (ocells L).size := by rw [sizeH, ocells_size, h]
theorem hsoL {L : List UInt8} (h : L.length = 32) : zeros32.size = (ocells L).size := by unfold zeros32; rw [ocells_size, ocells_size, h]; rfl
theorem strs_two (w : World) (s t : ByteArray) (n : Nat) (hn : n = w.heap.size) : Strs (w.alloc (.cells #[.string s, .string t] 9)) (.slice (some ⟨n, 0, none⟩) 2 2) [s, t] := by
  subst hn
  exact ⟨_, 2, rfl, Nat.le_refl _, by simp [maxLen], fun _ => ⟨w.heap.size, 0, rfl, by simp, fun i hi => er_cellAt (heap_alloc_new _ _) _ _ (by
    match i, hi with
    | 0, _ => rfl
    | 1, _ => rfl
    | n + 2, h => exact absurd h (by simp))⟩⟩
theorem strs_three (w : World) (s t u : ByteArray) (n : Nat) (hn : n = w.heap.size) : Strs (w.alloc (.cells #[.string s, .string t, .string u] 9)) (.slice (some ⟨n, 0, none⟩) 3 3) [s, t, u] := by
  subst hn
  exact ⟨_, 3, rfl, Nat.le_refl _, by simp [maxLen], fun _ => ⟨w.heap.size, 0, rfl, by simp, fun i hi => er_cellAt (heap_alloc_new _ _) _ _ (by
    match i, hi with
    | 0, _ => rfl
    | 1, _ => rfl
    | 2, _ => rfl
    | n + 3, h => exact absurd h (by simp))⟩⟩
theorem strs_nil (w : World) : Strs w (.slice none 0 0) [] := ⟨none, 0, rfl, Nat.le_refl _, by simp [maxLen], fun h => absurd rfl h⟩
/-- the table of the constants is there, and stays -/
structure TabS (w : World) : Prop where
  tab : Tab w
  lt : 18 < w.heap.size
theorem TabS.below {w w' : World} (h : TabS w) (k : Below w.heap.size w w') : TabS w' :=
  ⟨h.tab.kept (Keep.of_below k (fun _ => False)) h.lt (fun h => h), Nat.lt_of_lt_of_le h.lt k.size⟩
set_option maxHeartbeats 1600000 in
/-- hash.Empty -/
theorem empty_any (w : World) (hT : TabS w) : Calls Tryz.prog 82 #[] w fun e w' => e = .returned (hv (sha [])) ∧ Below w.heap.size w w' := by
  have k1 : Below w.heap.size w (w.alloc (.cells zeros32 66)) := er_al (Below.refl _ _) _
  have r1 : (w.alloc (.cells zeros32 66)).heap[w.heap.size]? = some (.cells zeros32 66 (0, 0)) := heap_alloc_new _ _
  have hc := sum_any (w.alloc (.cells zeros32 66)) _ [] (strs_nil _) (hT.below k1).tab (hT.below k1).lt (by simp [cat])
  have e1 : cat [] = [] := rfl
  rw [e1] at hc
  have HC := Bx.mk hc; have K1 := Bx.mk k1; have R1 := Bx.mk r1
  clear hc k1 r1 e1 hT
  go_enter Tryz.func82, Tryz.ntmps82
  go_upto_region 1 with (fail)
  change Code.wp _ _ _ _ (w.alloc (.cells zeros32 66))
  generalize w.alloc (.cells zeros32 66) = W at HC K1 R1 ⊢
  go_wp2_with fail
  refine HC.out.mono ?_
  rintro e w4 ⟨rfl, hb4⟩
  have hlt := (Array.getElem?_eq_some_iff.1 R1.out).1
  have q1 := (hb4.block w.heap.size hlt).trans R1.out
  have q2 : Below w.heap.size w w4 := K1.out.trans (hb4.mono (Nat.le_of_lt hlt))
  have Q1 := Bx.mk q1; have Q2 := Bx.mk q2; have HSZ := Bx.mk (hszL (sha_length [])); have HSO := Bx.mk (hsoL (sha_length []))
  clear hb4 q1 q2 hlt
  go_wp2_with (refine wpList_store_row rfl 66 (.tmp 0) (.tmp 1) rfl w.heap.size (ocells (sha [])) rfl rfl _ _ Q1.out HSZ.out HSO.out (ocells_one _) ?_)
  refine bodyPost_ret (results_cell_row rfl _ _ w.heap.size _ (ocells (sha [])) _ _ rfl (setRow_heap _ _ _ _ _ _ Q1.out) underH rfl HSZ.out) rfl ⟨rfl, below_setRow Q2.out (Nat.le_refl _) _⟩
end Go.Proofs.YtbhcaalelfaceaaGreatDoor
end
section
namespace Go.Proofs.YtbhcaalelfaceaaGreatDoor
set_option maxRecDepth 100000
open Go.RowKit
/-- 'string(h[:])' -/
theorem str_row {w : World} {B : Nat} {l : List UInt8} {T : TypeId} {fr : Nat × Nat} (h : w.heap[B]? = some (.cells (ocells l) T fr)) (hl : l.length = 32) :
    (convert 101 9 (.slice (some ⟨B, 0, none⟩) 32 32)).run Tryz.prog w = .ok (.string (bstr l)) w := by
  rw [run_convert_bytes_arg w 101 5 underB (by kernel_rfl) B 0 32 32 (l.map fun b => (b.toNat : Int)) (by simpa using hl) (fun i hi => by
    rw [Nat.zero_add]
    refine er_cellAt h i _ ?_
    have hi' : i < l.length := by omega
    simp [ocells, bcells, bcell, List.getD, hi']) 9 (by kernel_rfl)]
  congr 2
  unfold strOfNums bstr
  congr 1
  simp [List.map_map, Function.comp_def]
theorem cat_three (x : UInt8) (a b : List UInt8) : cat [⟨#[x]⟩, bstr a, bstr b] = x :: (a ++ b) := by
  show sb ⟨#[x]⟩ ++ (sb (bstr a) ++ (sb (bstr b) ++ [])) = _
  rw [sb_bstr, sb_bstr, List.append_nil]
  rfl
theorem cat_two (x : UInt8) (a : List UInt8) : cat [⟨#[x]⟩, bstr a] = x :: a := by
  show sb ⟨#[x]⟩ ++ (sb (bstr a) ++ []) = _
  rw [sb_bstr, List.append_nil]
  rfl
theorem results_row_tmp {fn : Func} {p u : Tmp} (h : fn.results = #[.cell p 66, .tmp u]) (tmps : Array Value) (w : World) (g : Nat) (t : TypeId) (cs : Array Value) (fr : Nat × Nat)
    (hp : tmps.getD p undef = .pointer (some ⟨g, 0, none⟩)) (hg : w.heap[g]? = some (.cells cs t fr)) (hi : (Tryz.prog.info? 66).map (·.size) = some cs.size) :
    (results fn tmps).run Tryz.prog w = .ok (.tuple #[.agg cs, tmps.getD u undef]) w := by
  have hl := run_loadVar_row (P := Tryz.prog) w g t 66 cs fr _ hg underH rfl hi
  rw [results_cell_tmp h, hp]
  simp [asAddr, hl, Result.andThen]
theorem heap_setRow_other (w : World) (g k : Nat) (cs : Array Value) (h : k ≠ g) : (w.setRow g cs).heap[k]? = w.heap[k]? := by
  simp [World.setRow, Array.getElem?_modify, Ne.symm h]
set_option maxHeartbeats 3200000 in
/-- hash.Node -/
theorem node_any (w : World) (a b : List UInt8) (ha : a.length = 32) (hb : b.length = 32) (hT : TabS w) :
    Calls Tryz.prog 83 #[hv a, hv b] w fun e w' => e = .returned (hv (sha (1 :: (a ++ b)))) ∧ Below w.heap.size w w' := by
  have u0 : (((w.alloc (.cells (ocells a) 66)).alloc (.cells (ocells b) 66)).alloc (.cells zeros32 66)).heap[w.heap.size]? = some (.cells (ocells a) 66 (0, 0)) := by
    rw [Below.heap_alloc _ _ _ (by simp; omega), Below.heap_alloc _ _ _ (by simp)]; exact heap_alloc_new _ _
  have u1 : (((w.alloc (.cells (ocells a) 66)).alloc (.cells (ocells b) 66)).alloc (.cells zeros32 66)).heap[w.heap.size + 1]? = some (.cells (ocells b) 66 (0, 0)) := by
    rw [Below.heap_alloc _ _ _ (by simp)]; simpa using heap_alloc_new (w.alloc (.cells (ocells a) 66)) (.cells (ocells b) 66)
  have u2 : (((w.alloc (.cells (ocells a) 66)).alloc (.cells (ocells b) 66)).alloc (.cells zeros32 66)).heap[w.heap.size + 1 + 1]? = some (.cells zeros32 66 (0, 0)) := by
    simpa using heap_alloc_new ((w.alloc (.cells (ocells a) 66)).alloc (.cells (ocells b) 66)) (.cells zeros32 66)
  have kb : Below w.heap.size w (((w.alloc (.cells (ocells a) 66)).alloc (.cells (ocells b) 66)).alloc (.cells zeros32 66)) := er_al (er_al (er_al (Below.refl _ _) _) _) _
  have us : (((w.alloc (.cells (ocells a) 66)).alloc (.cells (ocells b) 66)).alloc (.cells zeros32 66)).heap.size = w.heap.size + 1 + 1 + 1 := by simp
  have tb := hT.below kb
  unfold hv
  go_enter Tryz.func83, Tryz.ntmps83
  go_upto_region 1 with (fail)
  change Code.wp _ _ _ _ (((w.alloc (.cells (ocells a) 66)).alloc (.cells (ocells b) 66)).alloc (.cells zeros32 66))
  generalize ((w.alloc (.cells (ocells a) 66)).alloc (.cells (ocells b) 66)).alloc (.cells zeros32 66) = W at u0 u1 u2 kb us tb ⊢
  have k1 := fun n => str_row (w := W.drewN n) u0 ha
  have k2 := fun n => str_row (w := W.drewN n) u1 hb
  have U2 := Bx.mk u2; have KB := Bx.mk kb; have US := Bx.mk us; have TB := Bx.mk tb
  clear u2 kb us tb hT u0 u1
  refine wp_region_quiet_tail (C := fun w' => ∃ n, w' = W.drewN n) 4 (by kernel_rfl) (by kernel_rfl) ⟨1, rfl⟩ ?_
  simp only [List.take_succ_cons, List.take_zero, List.drop_succ_cons, List.drop_zero]
  repeat go_big_quiet_step (fail)
  refine wpQuiet_nil ?_
  intro _ hw'
  obtain ⟨nr, hw''⟩ := hw'
  subst hw''
  have kn : Below W.heap.size W (W.drewN nr) := ⟨rfl, rfl, rfl, Nat.le_refl _, fun _ _ => rfl⟩
  have k3 := er_al kn (.cells #[.string ⟨#[1]⟩, .string (bstr a), .string (bstr b)] 9)
  have hc := sum_any ((W.drewN nr).alloc (.cells #[.string ⟨#[1]⟩, .string (bstr a), .string (bstr b)] 9)) _ [⟨#[1]⟩, bstr a, bstr b] (strs_three (W.drewN nr) _ _ _ _ rfl) (TB.out.below k3).tab (TB.out.below k3).lt (by rw [cat_three]; simp; omega)
  rw [cat_three] at hc
  have HC := Bx.mk hc; have K3 := Bx.mk k3
  clear hc k3 kn k1 k2
  go_wp2_with fail
  refine HC.out.mono ?_
  rintro e w4 ⟨rfl, hb4⟩
  have hlt := (Array.getElem?_eq_some_iff.1 U2.out).1
  have q1 := (hb4.block (w.heap.size + 1 + 1) (Nat.lt_of_lt_of_le hlt K3.out.size)).trans ((K3.out.block _ hlt).trans U2.out)
  have q2 : Below w.heap.size w w4 := KB.out.trans ((K3.out.mono KB.out.size).trans (hb4.mono (Nat.le_trans KB.out.size K3.out.size)))
  have Q1 := Bx.mk q1; have Q2 := Bx.mk q2; have HSZ := Bx.mk (hszL (sha_length (1 :: (a ++ b)))); have HSO := Bx.mk (hsoL (sha_length (1 :: (a ++ b))))
  clear hb4 q1 q2 hlt
  go_wp2_with (refine wpList_store_row rfl 66 (.tmp 4) (.tmp 10) rfl (w.heap.size + 1 + 1) (ocells (sha (1 :: (a ++ b)))) rfl rfl _ _ Q1.out HSZ.out HSO.out (ocells_one _) ?_)
  refine bodyPost_ret (results_cell_row rfl _ _ (w.heap.size + 1 + 1) _ (ocells (sha (1 :: (a ++ b)))) _ _ rfl (setRow_heap _ _ _ _ _ _ Q1.out) underH rfl HSZ.out) rfl ⟨rfl, below_setRow Q2.out (by omega) _⟩
/-- a chain of so many steps -/
def chainN (h : List UInt8) : Nat → List UInt8
  | 0 => h
  | n + 1 => sha (2 :: chainN h n)
theorem chainN_length {h : List UInt8} (hh : h.length = 32) : ∀ n, (chainN h n).length = 32
  | 0 => hh
  | _ + 1 => sha_length _
theorem chainN_add (h : List UInt8) (m : Nat) : ∀ n, chainN (chainN h m) n = chainN h (m + n)
  | 0 => rfl
  | n + 1 => by rw [chainN, chainN_add h m n]; rfl
end Go.Proofs.YtbhcaalelfaceaaGreatDoor
end
section
namespace Go.Proofs.YtbhcaalelfaceaaGreatDoor
open Go.RowKit
section
variable {P : Program} {Q : Exit → Act → World → Prop}
theorem wp_load_iface {o : Oper} {a : Act} {w : World} {K : Act → World → Prop} (ty : TypeId) (x : Operand) (ho : o.op = .load ty x)
    (g : Addr) (hx : a.eval x = .pointer (some g)) (v : Value) (hc : w.cell? g = some v) {ms : Array (String × TypeId)} (hu : P.underlying ty = some (.interface ms))
    (h : K (a.put o.dst v) w) : o.wp P a w K Q := by
  unfold Oper.wp execOp
  simp [ho, hx, Instr.loadAt, Instr.sureAddr, loadVar, isAgg, underlying, hu, hc, Result.andThen]
  exact h
/-- the orders of such a region, as one closed fact -/
def zeroOrders (ops : Array Oper) : Bool :=
  ops.size == 4 && Region.ready .any ops #[false, false, false, false] == [0, 1] && Region.ready .any ops #[true, false, false, false] == [1, 2] && Region.ready .any ops #[false, true, false, false] == [0] &&
  Region.ready .any ops #[true, true, false, false] == [2] && Region.ready .any ops #[true, false, true, false] == [1] && Region.ready .any ops #[true, true, true, false] == [3] && Region.ready .any ops #[true, true, true, true] == []
theorem wp_region_zero {id : Nat} {a : Act} {w w' : World} {o0 o1 o2 o3 : Oper} (hm : P.follows .mixedOrders = true) (hr : zeroOrders #[o0, o1, o2, o3] = true)
    (g0 : o0.guard = none) (g1 : o1.guard = none) (g2 : o2.guard = none) (g3 : o3.guard = none) (v0 v1 : Value) (hd : ∀ d, o0.dst = some d → o1.dst ≠ some d)
    (k0 : ∀ (b : Act) (K : Act → World → Prop), K (b.put o0.dst v0) { w with drawn := w.drawn + 1 } → o0.wp P b { w with drawn := w.drawn + 1 } K Q)
    (k1 : ∀ (b : Act) (u : World) (K : Act → World → Prop), (u = { w with drawn := w.drawn + 1 } ∨ u = w') → K (b.put o1.dst v1) u → o1.wp P b u K Q)
    (k2 : ∀ (b : Act) (K : Act → World → Prop), (b = a.put o0.dst v0 ∨ b = (a.put o0.dst v0).put o1.dst v1) → K b w' → o2.wp P b { w with drawn := w.drawn + 1 } K Q)
    (h : o3.wp P ((a.put o0.dst v0).put o1.dst v1) w' (fun b u => Q .normal b u) Q) : (Code.region id #[o0, o1, o2, o3] true).wp P Q a w := by
  simp only [zeroOrders, Bool.and_eq_true, beq_iff_eq] at hr
  obtain ⟨⟨⟨⟨⟨⟨⟨_, r0⟩, r1⟩, r2⟩, r3⟩, r4⟩, r5⟩, r6⟩ := hr
  have hw : ∀ (o : Oper) l, o.guard = none → Region.wanted o l = true := fun o l ho => by simp [Region.wanted, ho]
  have comm : (a.put o1.dst v1).put o0.dst v0 = (a.put o0.dst v0).put o1.dst v1 := (Act.put_comm a v0 v1 hd).symm
  -- the last: everything else is done
  have last : wpAny P .any #[o0, o1, o2, o3] Q 1 #[true, true, true, false] ((a.put o0.dst v0).put o1.dst v1) w' := by
    refine ⟨(fun he => by rw [r5] at he; cases he), fun i hi => ?_⟩
    rw [r5] at hi
    obtain rfl : i = 3 := by simpa using hi
    simp only [wpOp, List.getElem?_toArray, List.getElem?_cons_succ, List.getElem?_cons_zero, hw o3 _ g3, if_true]
    exact .inl (Oper.wp_mono (fun b u hq => ⟨r6, hq⟩) h)
  have s2 : wpAny P .any #[o0, o1, o2, o3] Q 2 #[true, true, false, false] ((a.put o0.dst v0).put o1.dst v1) { w with drawn := w.drawn + 1 } := by
    refine ⟨(fun he => by rw [r3] at he; cases he), fun i hi => ?_⟩
    rw [r3] at hi
    obtain rfl : i = 2 := by simpa using hi
    simp only [wpOp, List.getElem?_toArray, List.getElem?_cons_succ, List.getElem?_cons_zero, hw o2 _ g2, if_true]
    exact .inl (k2 _ _ (.inr rfl) last)
  have s1 : wpAny P .any #[o0, o1, o2, o3] Q 3 #[true, false, false, false] (a.put o0.dst v0) { w with drawn := w.drawn + 1 } := by
    refine ⟨(fun he => by rw [r1] at he; cases he), fun i hi => ?_⟩
    rw [r1] at hi
    rcases (by simpa using hi : i = 1 ∨ i = 2) with rfl | rfl
    · simp only [wpOp, List.getElem?_toArray, List.getElem?_cons_succ, List.getElem?_cons_zero, hw o1 _ g1, if_true]
      exact .inl (k1 _ _ _ (.inl rfl) s2)
    · simp only [wpOp, List.getElem?_toArray, List.getElem?_cons_succ, List.getElem?_cons_zero, hw o2 _ g2, if_true]
      refine .inl (k2 _ _ (.inl rfl) ⟨(fun he => by rw [show (#[true, false, false, false] : Array Bool).setIfInBounds 2 true = #[true, false, true, false] from rfl, r4] at he; cases he), fun i hi => ?_⟩)
      rw [show (#[true, false, false, false] : Array Bool).setIfInBounds 2 true = #[true, false, true, false] from rfl, r4] at hi
      obtain rfl : i = 1 := by simpa using hi
      simp only [wpOp, List.getElem?_toArray, List.getElem?_cons_succ, List.getElem?_cons_zero, hw o1 _ g1, if_true]
      exact .inl (k1 _ _ _ (.inr rfl) last)
  refine wp_region_any hm ⟨(fun he => by rw [show Array.replicate (#[o0, o1, o2, o3] : Array Oper).size false = #[false, false, false, false] from rfl, r0] at he; cases he), fun i hi => ?_⟩
  rw [show Array.replicate (#[o0, o1, o2, o3] : Array Oper).size false = #[false, false, false, false] from rfl, r0] at hi
  rcases (by simpa using hi : i = 0 ∨ i = 1) with rfl | rfl
  · simp only [wpOp, List.getElem?_toArray, List.getElem?_cons_zero, hw o0 _ g0, if_true]
    exact .inl (k0 _ _ s1)
  · simp only [wpOp, List.getElem?_toArray, List.getElem?_cons_succ, List.getElem?_cons_zero, hw o1 _ g1, if_true]
    refine .inl (k1 _ _ _ (.inl rfl) ⟨(fun he => by rw [show (Array.replicate (#[o0, o1, o2, o3] : Array Oper).size false).setIfInBounds 1 true = #[false, true, false, false] from rfl, r2] at he; cases he), fun i hi => ?_⟩)
    rw [show (Array.replicate (#[o0, o1, o2, o3] : Array Oper).size false).setIfInBounds 1 true = #[false, true, false, false] from rfl, r2] at hi
    obtain rfl : i = 0 := by simpa using hi
    simp only [wpOp, List.getElem?_toArray, List.getElem?_cons_zero, hw o0 _ g0, if_true]
    refine .inl (k0 _ _ ?_)
    rw [comm]
    exact s2
end
end Go.Proofs.YtbhcaalelfaceaaGreatDoor
end
section
namespace Go.Proofs.YtbhcaalelfaceaaGreatDoor
set_option maxRecDepth 100000
open Go.RowKit
def zero32' : List UInt8 := List.replicate 32 0
theorem zero32'_length : zero32'.length = 32 := rfl
end Go.Proofs.YtbhcaalelfaceaaGreatDoor
end
section
namespace Go.Proofs.YtbhcaalelfaceaaGreatDoor
set_option maxRecDepth 100000
open Go.RowKit
set_option maxRecDepth 1000000 in
theorem sha_nil : sha [] = [227, 176, 196, 66, 152, 252, 28, 20, 154, 251, 244, 200, 153, 111, 185, 36, 39, 174, 65, 228, 100, 155, 147, 76, 164, 149, 153, 27, 120, 82, 184, 85] := by decide +kernel
set_option maxRecDepth 1000000 in
theorem sha_zero : sha [0] = [110, 52, 11, 156, 255, 179, 122, 152, 156, 165, 68, 230, 187, 120, 10, 44, 120, 144, 29, 63, 179, 55, 56, 118, 133, 17, 163, 6, 23, 175, 160, 29] := by decide +kernel
theorem hv_eq (w : World) (a b : List UInt8) (ha : a.length = 32) (hb : b.length = 32) : (binOp .eql 66 (hv a) (hv b)).run Tryz.prog w = .ok (.bool (a == b)) w :=
  run_eql_bytes w 66 5 32 underH (by kernel_rfl) (fun _ => by kernel_rfl) a b ha hb
theorem hv_agg (a : List UInt8) : hv a = .agg (ocells a) := rfl
/-- a row of a hash, new in memory -/
def HashAt (w : World) (n : Nat) (l : List UInt8) : Prop := w.heap[n]? = some (.cells (ocells l) 66 (0, 0)) ∧ l.length = 32
theorem HashAt.lt {w : World} {n : Nat} {l : List UInt8} (h : HashAt w n l) : n < w.heap.size := (Array.getElem?_eq_some_iff.1 h.1).1
theorem HashAt.below {w w' : World} {n : Nat} {l : List UInt8} (h : HashAt w n l) (k : Below w.heap.size w w') : HashAt w' n l := ⟨(k.block n h.lt).trans h.1, h.2⟩
theorem HashAt.new (w : World) (l : List UInt8) (hl : l.length = 32) : HashAt (w.alloc (.cells (ocells l) 66)) w.heap.size l := ⟨heap_alloc_new _ _, hl⟩
theorem HashAt.cell {w : World} {n : Nat} {l : List UInt8} (h : HashAt w n l) (i : Nat) (c : Int) (hc : (ocells l)[i]? = some (.int .u8 c)) : w.cell? ⟨n, i, none⟩ = some (.int .u8 c) := er_cellAt h.1 _ _ hc
/-- what a law of chapter 05 keeps of the world -/
structure Hs (A : Nat → Addr) (w : World) : Prop where
  tab : TabS w
  err : Errs w A
theorem Hs.below {A : Nat → Addr} {w w' : World} (h : Hs A w) (k : Below w.heap.size w w') : Hs A w' := ⟨h.tab.below k, h.err.below k⟩
end Go.Proofs.YtbhcaalelfaceaaGreatDoor
end
section
namespace Go.Proofs.YtbhcaalelfaceaaGreatDoor
set_option maxRecDepth 100000
open Go.RowKit
theorem str_src {w : World} {v : Value} {l : List UInt8} (h : Src w v l) (hl : l ≠ []) : (convert 101 9 v).run Tryz.prog w = .ok (.string (bstr l)) w := by
  obtain ⟨a, c, rfl, _, _, _, h3⟩ := h
  obtain ⟨B, off, rfl, _, hc⟩ := h3 hl
  rw [run_convert_bytes_arg w 101 5 underB (by kernel_rfl) B off l.length c (l.map fun b => (b.toNat : Int)) (by simp) (fun i hi => by
    rw [hc i hi]
    simp [bcell, List.getD, hi]) 9 (by kernel_rfl)]
  congr 2
  unfold strOfNums bstr
  congr 1
  simp [List.map_map, Function.comp_def]
set_option maxHeartbeats 1600000 in
theorem rbytes_any (w : World) (a : List UInt8) (ha : a.length = 32) : Calls Tryz.prog 135 #[hv a] w fun e w' => e = .returned (.string (bstr a)) ∧ Below w.heap.size w w' := by
  have x0 := HashAt.new w a ha
  have b0 : Below w.heap.size w (w.alloc (.cells (ocells a) 66)) := er_al (Below.refl _ _) _
  obtain ⟨i0, hi, hz0, hz1, hz2⟩ := info_parts info8
  have RI := Bx.mk (And.intro hi (And.intro hz0 (And.intro hz1 hz2)))
  have HA := Bx.mk ha
  clear hi hz0 hz1 hz2 ha
  unfold hv
  go_enter Tryz.func135, Tryz.ntmps135
  go_upto_region 1 with (fail)
  change Code.wp _ _ _ _ (w.alloc (.cells (ocells a) 66))
  generalize w.alloc (.cells (ocells a) 66) = W at x0 b0 ⊢
  have X0 := Bx.mk x0; have B0 := Bx.mk b0; clear x0 b0
  go_wp2_with fail
  go_loopw [3, 4] (fun v i wr => ∃ t : Nat, t ≤ 32 ∧ i = .int .i64 (t : Int) ∧ Below W.heap.size W wr ∧ OwnF W.heap.size wr v (a.take t)) (fun _ i _ => 32 - (intOf i).toNat)
  case atStart => exact ⟨0, Nat.zero_le _, rfl, Below.refl _ _, .inl ⟨rfl, rfl⟩⟩
  case round =>
    obtain ⟨t, ht, rfl, hb, ho⟩ := hrel
    have hln : (a.take t).length = t := by rw [List.length_take, HA.out]; omega
    have HLN := Bx.mk hln
    by_cases hlt : t < 32
    · obtain ⟨a3, c3, rfl, q1, q2, q3⟩ := ho.shape
      have hta : t < a.length := by rw [HA.out]; exact hlt
      have hcell : wr.cell? ⟨w.heap.size, t, none⟩ = some (.int .u8 (a[t].toNat : Int)) := er_cellAt (X0.out.below hb).1 _ _ (by simp [ocells, bcells, bcell, hta])
      generalize hat : a[t] = at' at hcell
      have hstep : a.take (t + 1) = a.take t ++ [at'] := by rw [List.take_succ_eq_append_getElem hta, hat]
      have q4 := ho.kept (Keep.alloc (fun _ => False) wr (.cells #[.int .u8 (at'.toNat : Int)] 5)) (fun _ _ h => h)
      have q5 := one_cell wr (.int .u8 (at'.toNat : Int)) rfl wr.heap.size rfl
      have q6 : (a.take t).length + 1 ≤ 140737488355328 := by rw [hln]; omega
      have q7 : W.heap.size ≤ (wr.alloc (.cells #[.int .u8 (at'.toNat : Int)] 5)).heap.size := Nat.le_trans hb.size (by simp)
      have HB := Bx.mk hb; have HO := Bx.mk ho; have Q4 := Bx.mk q4; have Q5 := Bx.mk q5; have Q6 := Bx.mk q6; have Q7 := Bx.mk q7; have HS := Bx.mk hstep
      clear hb ho q1 q2 q3 q4 q5 q6 q7 hstep hat hta hln
      go_wp2_with (refine wpList_append_F rfl (.tmp 9) (.tmp 13) 101 rfl W.heap.size 5 i0 (.int .u8 0) underB RI.out.1 RI.out.2.1 RI.out.2.2.1 RI.out.2.2.2 rfl rfl (.slice a3 (a.take t).length c3) (a.take t) rfl Q4.out (some ⟨wr.heap.size, 0, none⟩) 1 1 [at'] rfl rfl (by simp) Q5.out Q6.out Q7.out ?_; intro v' w2 ho1 hg1 hf1; have G1 := Bx.mk hg1; have O1 := Bx.mk ho1; clear ho1 hg1 hf1)
      go_roundw
      case rel =>
        refine ⟨t + 1, hlt, by go_num, (er_al HB.out _).grown G1.out (Nat.le_trans HB.out.size (by simp)) (fun k hk => (HO.out.fresh k hk).1), ?_⟩
        rw [HS.out]
        exact O1.out
      case measure => simp [intOf]; omega
    · obtain rfl : t = 32 := by omega
      have hta : a.take 32 = a := List.take_of_length_le (by rw [HA.out]; exact Nat.le_refl _)
      rw [hta] at ho
      have hs := str_src ho.src (by intro h; have := HA.out; rw [h] at this; cases this)
      obtain ⟨a3, c3, rfl, q1, q2, q3⟩ := ho.shape
      have HB := Bx.mk hb
      clear hb ho q1 q2 q3 hta hln
      go_wp2_with fail
      go_ret
      exact ⟨rfl, B0.out.trans (HB.out.mono B0.out.size)⟩
end Go.Proofs.YtbhcaalelfaceaaGreatDoor
end
section
namespace Go.Proofs.YtbhcaalelfaceaaGreatDoor
set_option maxRecDepth 100000
open Go.RowKit
theorem sb_app (s t : ByteArray) : sb (s ++ t) = sb s ++ sb t := by simp [sb]
set_option maxHeartbeats 1600000 in
theorem rempty_any (w : World) : Calls Tryz.prog 121 #[] w fun e w' => e = .returned (hv (sha [])) ∧ Below w.heap.size w w' := by
  have k1 : Below w.heap.size w (w.alloc (.cells zeros32 66)) := er_al (Below.refl _ _) _
  have r1 : (w.alloc (.cells zeros32 66)).heap[w.heap.size]? = some (.cells zeros32 66 (0, 0)) := heap_alloc_new _ _
  have hc := rsum_any (w.alloc (.cells zeros32 66)) ⟨#[]⟩ (by decide)
  rw [show sb ⟨#[]⟩ = [] from rfl] at hc
  have HC := Bx.mk hc; have K1 := Bx.mk k1; have R1 := Bx.mk r1
  clear hc k1 r1
  go_enter Tryz.func121, Tryz.ntmps121
  go_upto_region 1 with (fail)
  change Code.wp _ _ _ _ (w.alloc (.cells zeros32 66))
  generalize w.alloc (.cells zeros32 66) = W at HC K1 R1 ⊢
  go_wp2_with fail
  refine HC.out.mono ?_
  rintro e w4 ⟨rfl, hb4⟩
  have hlt := (Array.getElem?_eq_some_iff.1 R1.out).1
  have q1 := (hb4.block w.heap.size hlt).trans R1.out
  have q2 : Below w.heap.size w w4 := K1.out.trans (hb4.mono (Nat.le_of_lt hlt))
  have Q1 := Bx.mk q1; have Q2 := Bx.mk q2; have HSZ := Bx.mk (hszL (sha_length [])); have HSO := Bx.mk (hsoL (sha_length []))
  clear hb4 q1 q2 hlt
  go_wp2_with (refine wpList_store_row rfl 66 (.tmp 0) (.tmp 1) rfl w.heap.size (ocells (sha [])) rfl rfl _ _ Q1.out HSZ.out HSO.out (ocells_one _) ?_)
  refine bodyPost_ret (results_cell_row rfl _ _ w.heap.size _ (ocells (sha [])) _ _ rfl (setRow_heap _ _ _ _ _ _ Q1.out) underH rfl HSZ.out) rfl ⟨rfl, below_setRow Q2.out (Nat.le_refl _) _⟩
set_option maxHeartbeats 3200000 in
theorem nodeText_any (w : World) (a b : List UInt8) (ha : a.length = 32) (hb : b.length = 32) : Calls Tryz.prog 124 #[hv a, hv b] w fun e w' => e = .returned (.string (⟨#[1]⟩ ++ bstr a ++ bstr b)) ∧ Below w.heap.size w w' := by
  have x0 := (HashAt.new w a ha).below (er_al (Below.refl _ _) (.cells (ocells b) 66))
  have x1 := HashAt.new (w.alloc (.cells (ocells a) 66)) b hb
  rw [show (w.alloc (.cells (ocells a) 66)).heap.size = w.heap.size + 1 by simp] at x1
  have kb : Below w.heap.size w ((w.alloc (.cells (ocells a) 66)).alloc (.cells (ocells b) 66)) := er_al (er_al (Below.refl _ _) _) _
  unfold hv
  go_enter Tryz.func124, Tryz.ntmps124
  go_upto_region 1 with (fail)
  change Code.wp _ _ _ _ ((w.alloc (.cells (ocells a) 66)).alloc (.cells (ocells b) 66))
  generalize (w.alloc (.cells (ocells a) 66)).alloc (.cells (ocells b) 66) = W at x0 x1 kb ⊢
  have r0 : ∀ u, BlwC W.heap.size W u → u.heap[w.heap.size]? = some (.cells (ocells a) 66 (0, 0)) := fun u ⟨u', hu⟩ => by subst hu; exact (x0.below u'.h).1
  have r1 : ∀ u, BlwC W.heap.size W u → u.heap[w.heap.size + 1]? = some (.cells (ocells b) 66 (0, 0)) := fun u ⟨u', hu⟩ => by subst hu; exact (x1.below u'.h).1
  have c0 := fun u (_ : Below W.heap.size W u) => rbytes_any u a ha
  have c1 := fun u (_ : Below W.heap.size W u) => rbytes_any u b hb
  have ne := Blw.ne W.heap.size W
  have R0' := Bx.mk r0; have R1' := Bx.mk r1; have C0 := Bx.mk c0; have C1 := Bx.mk c1; have KB := Bx.mk kb; have HA := Bx.mk ha; have HB := Bx.mk hb
  clear x0 x1 kb r0 r1 c0 c1 ha hb
  refine wp_region_quiet_c (C := fun w' => ∃ u : Blw W.heap.size W, w' = u.w) (by kernel_rfl) (by kernel_rfl) ⟨⟨_, (Below.refl _ _).drew⟩, rfl⟩ ?_
  refine wpQuiet_load_row rfl 66 (.tmp 2) rfl w.heap.size rfl 66 (ocells a) (0, 0) _ R0'.out underH rfl (hszL HA.out) ?_
  simp only [Act.put, List.setIfInBounds_toArray, List.set_cons_succ, List.set_cons_zero]
  go_big_quiet_step (exact Calls.blw (Nat.le_refl _) C0.out)
  have h1 := fun u => run_string_add_sum (P := Tryz.prog) u ⟨#[1]⟩ (bstr a) (by rw [bstr_size, HA.out]; decide)
  have h2 := fun u => run_string_add_sum (P := Tryz.prog) u (⟨#[1]⟩ ++ bstr a) (bstr b) (by rw [ByteArray.size_append, bstr_size, bstr_size, HA.out, HB.out]; decide)
  go_big_quiet_step (fail)
  go_big_quiet_want
  refine quiet_load_row 66 (.tmp 3) rfl (w.heap.size + 1) rfl 66 (ocells b) (0, 0) _ R1'.out underH rfl (hszL HB.out) ?_
  go_big_quiet_on
  simp only [Act.put, List.setIfInBounds_toArray, List.set_cons_succ, List.set_cons_zero]
  go_big_quiet_step (exact Calls.blw (Nat.le_refl _) C1.out)
  go_big_quiet_step (fail)
  go_big_quiet_step (fail)
  refine wpQuiet_nil ?_
  rintro _ ⟨u, rfl⟩
  go_wp2_with fail
  go_ret
  exact ⟨rfl, KB.out.trans (u.h.mono KB.out.size)⟩
set_option maxHeartbeats 3200000 in
theorem rnode_any (w : World) (a b : List UInt8) (ha : a.length = 32) (hb : b.length = 32) : Calls Tryz.prog 116 #[hv a, hv b] w fun e w' => e = .returned (hv (sha (1 :: (a ++ b)))) ∧ Below w.heap.size w w' := by
  have x0 := ((HashAt.new w a ha).below (er_al (Below.refl _ _) (.cells (ocells b) 66))).below (er_al (Below.refl _ _) (.cells zeros32 66))
  have x1 := HashAt.new (w.alloc (.cells (ocells a) 66)) b hb
  rw [show (w.alloc (.cells (ocells a) 66)).heap.size = w.heap.size + 1 by simp] at x1
  have x1' := x1.below (er_al (Below.refl _ _) (.cells zeros32 66))
  have x2 : (((w.alloc (.cells (ocells a) 66)).alloc (.cells (ocells b) 66)).alloc (.cells zeros32 66)).heap[w.heap.size + 1 + 1]? = some (.cells zeros32 66 (0, 0)) := by
    simpa using heap_alloc_new ((w.alloc (.cells (ocells a) 66)).alloc (.cells (ocells b) 66)) (.cells zeros32 66)
  have kb : Below w.heap.size w (((w.alloc (.cells (ocells a) 66)).alloc (.cells (ocells b) 66)).alloc (.cells zeros32 66)) := er_al (er_al (er_al (Below.refl _ _) _) _) _
  have us : (((w.alloc (.cells (ocells a) 66)).alloc (.cells (ocells b) 66)).alloc (.cells zeros32 66)).heap.size = w.heap.size + 1 + 1 + 1 := by simp
  have HA := Bx.mk ha; have HB := Bx.mk hb
  clear x1 ha hb
  unfold hv
  go_enter Tryz.func116, Tryz.ntmps116
  go_upto_region 1 with (fail)
  change Code.wp _ _ _ _ (((w.alloc (.cells (ocells a) 66)).alloc (.cells (ocells b) 66)).alloc (.cells zeros32 66))
  generalize ((w.alloc (.cells (ocells a) 66)).alloc (.cells (ocells b) 66)).alloc (.cells zeros32 66) = W at x0 x1' x2 kb us ⊢
  have c0 := nodeText_any W a b HA.out HB.out
  have c1 := fun u => rsum_any u (⟨#[1]⟩ ++ bstr a ++ bstr b) (by rw [ByteArray.size_append, ByteArray.size_append, bstr_size, bstr_size, HA.out, HB.out]; decide)
  rw [sb_app, sb_app, sb_bstr, sb_bstr, show sb ⟨#[1]⟩ ++ a ++ b = 1 :: (a ++ b) from rfl] at c1
  have C0 := Bx.mk c0; have C1 := Bx.mk c1; have X0 := Bx.mk x0; have X1 := Bx.mk x1'; have X2 := Bx.mk x2; have KB := Bx.mk kb; have US := Bx.mk us
  clear c0 c1 x0 x1' x2 kb us
  go_wp2_with (first
    | refine wpList_load_row rfl 66 (.tmp 2) rfl w.heap.size rfl _ _ _ _ X0.out.1 underH rfl (hszL HA.out) ?_
    | refine wpList_load_row rfl 66 (.tmp 3) rfl (w.heap.size + 1) rfl _ _ _ _ X1.out.1 underH rfl (hszL HB.out) ?_)
  refine C0.out.mono ?_
  rintro e w1 ⟨rfl, hb1⟩
  have HB1 := Bx.mk hb1; clear hb1
  go_wp2_with fail
  refine (C1.out _).mono ?_
  rintro e w4 ⟨rfl, hb4⟩
  have hlt := (Array.getElem?_eq_some_iff.1 X2.out).1
  have q1 := (hb4.block _ (Nat.lt_of_lt_of_le hlt HB1.out.size)).trans ((HB1.out.block _ hlt).trans X2.out)
  have q2 : Below w.heap.size w w4 := KB.out.trans ((HB1.out.mono KB.out.size).trans (hb4.mono (Nat.le_trans KB.out.size HB1.out.size)))
  have Q1 := Bx.mk q1; have Q2 := Bx.mk q2; have HSZ := Bx.mk (hszL (sha_length (1 :: (a ++ b)))); have HSO := Bx.mk (hsoL (sha_length (1 :: (a ++ b))))
  clear hb4 q1 q2 hlt
  go_wp2_with (refine wpList_store_row rfl 66 (.tmp 4) (.tmp 8) rfl (w.heap.size + 1 + 1) (ocells (sha (1 :: (a ++ b)))) rfl rfl _ _ Q1.out HSZ.out HSO.out (ocells_one _) ?_)
  refine bodyPost_ret (results_cell_row rfl _ _ (w.heap.size + 1 + 1) _ (ocells (sha (1 :: (a ++ b)))) _ _ rfl (setRow_heap _ _ _ _ _ _ Q1.out) underH rfl HSZ.out) rfl ⟨rfl, below_setRow Q2.out (by omega) _⟩
end Go.Proofs.YtbhcaalelfaceaaGreatDoor
end
section
namespace Go.Proofs.YtbhcaalelfaceaaGreatDoor
set_option maxRecDepth 100000
open Go.RowKit
/-- cartularyref02.Plain -/
theorem plain_any (w : World) (c : Int) (hc : c ≠ 0) : Calls Tryz.prog 76 #[.int .i64 c] w fun e w' => e = .returned (.agg #[.int .i64 c, .int .i64 (-1)]) ∧ Below w.heap.size w w' := by
  have hc' : (c == 0) = false := by simpa using hc
  clear hc
  go_enter Tryz.func76, Tryz.ntmps76
  go_wp2_with fail
  exact bodyPost_ret (results_cell_row rfl _ _ w.heap.size _ #[.int .i64 c, .int .i64 (-1)] _ _ rfl (heap_alloc_new _ _) Tryz.underlying73 rfl (by kernel_rfl)) rfl ⟨rfl, er_al (Below.refl _ _) _⟩
theorem results_two_rows {fn : Func} {p u : Tmp} (h : fn.results = #[.cell p 66, .cell u 73]) (tmps : Array Value) (w : World) (g g2 : Nat) (t t2 : TypeId) (cs cs2 : Array Value) (fr fr2 : Nat × Nat)
    (hp : tmps.getD p undef = .pointer (some ⟨g, 0, none⟩)) (hg : w.heap[g]? = some (.cells cs t fr)) (hi : (Tryz.prog.info? 66).map (·.size) = some cs.size)
    (hp2 : tmps.getD u undef = .pointer (some ⟨g2, 0, none⟩)) (hg2 : w.heap[g2]? = some (.cells cs2 t2 fr2)) (hi2 : (Tryz.prog.info? 73).map (·.size) = some cs2.size) :
    (results fn tmps).run Tryz.prog w = .ok (.tuple #[.agg cs, .agg cs2]) w := by
  have hl := run_loadVar_row (P := Tryz.prog) w g t 66 cs fr _ hg underH rfl hi
  have hl2 := run_loadVar_row (P := Tryz.prog) w g2 t2 73 cs2 fr2 _ hg2 Tryz.underlying73 rfl hi2
  have hp' : tmps[p]?.getD undef = .pointer (some ⟨g, 0, none⟩) := by simpa using hp
  have hp2' : tmps[u]?.getD undef = .pointer (some ⟨g2, 0, none⟩) := by simpa using hp2
  simp [results, h, hp', hp2', asAddr, hl, hl2, Sem.run_bind, Result.andThen]
theorem er_frozen {w : World} {g : Nat} {cs : Array Value} {T : TypeId} (h : w.heap[g]? = some (.cells cs T (0, 0))) (j : Nat) : w.frozen? ⟨g, j, none⟩ = false := by
  simp [World.frozen?, h]
theorem two_set {X : World} {n : Nat} {u v : Value} {T : TypeId} (h : X.heap[n]? = some (.cells #[u, v] T (0, 0))) (a b : Value) :
    ((X.setCell ⟨n, 0, none⟩ a).setCell ⟨n, 1, none⟩ b).heap[n]? = some (.cells #[a, b] T (0, 0)) ∧ ∀ k, k ≠ n → ((X.setCell ⟨n, 0, none⟩ a).setCell ⟨n, 1, none⟩ b).heap[k]? = X.heap[k]? := by
  constructor
  · simp [World.setCell, Array.getElem?_modify, h]
  · intro k hk
    simp [World.setCell, Array.getElem?_modify, Ne.symm hk]
theorem setRow_alloc2 (w : World) (X Y : Array Value) (T : TypeId) (o : Obj) (n : Nat) (hn : n = w.heap.size) : ((w.alloc (.cells X T)).alloc o).setRow n Y = (w.alloc (.cells Y T)).alloc o := by
  subst hn
  unfold World.setRow World.alloc
  congr 1
  apply Array.ext_getElem?
  intro k
  rw [Array.getElem?_modify]
  by_cases hk : k = w.heap.size
  · subst hk; simp [Array.getElem?_push]
  · by_cases hk2 : k = w.heap.size + 1
    · subst hk2
      rw [if_neg (by omega)]
      have e : ∀ x : Obj, ((w.heap.push x).push o)[w.heap.size + 1]? = some o := fun x => by rw [Array.getElem?_push, if_pos (by simp)]
      exact (e _).trans (e _).symm
    · simp [Array.getElem?_push, hk, hk2, Ne.symm hk]
def fz : Array Value := #[.int .i64 0, .int .i64 0]
end Go.Proofs.YtbhcaalelfaceaaGreatDoor
end
