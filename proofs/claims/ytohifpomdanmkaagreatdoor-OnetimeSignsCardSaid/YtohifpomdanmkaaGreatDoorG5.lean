/- cartulary/hash: Leaf, Empty, Node, one step of a chain; each tells SHA of its bytes. cartulary/hash: Node, Chain. A region that draws: 'return T{}, ErrX' with a result of several cells: a zero row is built and stored while a variable is read; whatever the order, one end. hash.Chain of steps that may not be. cartularylaw05.lives. cartularyref05.bytes: a hash as a text. cartularyref05: LeafText, Leaf, Empty, NodeText, Node. cartularyref05.Chain. -/
import Derived.Test.YtohifpomdanmkaaGreatDoorG2
import Derived.Test.YtohifpomdanmkaaGreatDoorErq
import Derived.Laws.BytesArg
import Derived.BigQuiet
import Derived.Deep.QuietTactic
import Derived.Test.YtohifpomdanmkaaGreatDoorG1
import Derived.Orders
import Derived.Laws.Tables
import Derived.WalkKit
import Derived.Stop.BytesEq
import Derived.Laws.Concat
section
namespace Go.Proofs.YtohifpomdanmkaaGreatDoor
set_option maxRecDepth 100000
open Go.RowKit
/-- bytes as a text -/
def bstr (l : List UInt8) : ByteArray := ⟨l.toArray⟩
theorem sb_bstr (l : List UInt8) : sb (bstr l) = l := by simp [sb, bstr]
theorem bstr_size (l : List UInt8) : (bstr l).size = l.length := by simp [bstr, ByteArray.size]
theorem hszL {L : List UInt8} (h : L.length = 32) : (Tryz.prog.info? 23).map (·.size) = some (ocells L).size := by rw [sizeH, ocells_size, h]
theorem hsoL {L : List UInt8} (h : L.length = 32) : zeros32.size = (ocells L).size := by unfold zeros32; rw [ocells_size, ocells_size, h]; rfl
theorem strs_two (w : World) (s t : ByteArray) (n : Nat) (hn : n = w.heap.size) : Strs (w.alloc (.cells #[.string s, .string t] 9)) (.slice (some ⟨n, 0, none⟩) 2 2) [s, t] := by
  subst hn
  exact ⟨_, 2, rfl, Nat.le_refl _, by simp [maxLen], fun _ => ⟨w.heap.size, 0, rfl, by simp, fun i hi => er_cellAt (heap_alloc_new _ _) _ _ (by
    match i, hi with
    | 0, _ => rfl
    | 1, _ => rfl
    | n + 2, h => exact absurd h (by simp))⟩⟩
theorem strs_three (w : World) (s t u : ByteArray) (n : Nat) (hn : n = w.heap.size) : Strs (w.alloc (.cells #[.string s, .string t, .string u] 9)) (.slice (some ⟨n, 0, none⟩) 3 3) [s, t, u] := by
  subst hn
  exact ⟨_, 3, rfl, Nat.le_refl _, by simp [maxLen], fun _ => ⟨w.heap.size, 0, rfl, by simp, fun i hi => er_cellAt (heap_alloc_new _ _) _ _ (by
    match i, hi with
    | 0, _ => rfl
    | 1, _ => rfl
    | 2, _ => rfl
    | n + 3, h => exact absurd h (by simp))⟩⟩
theorem strs_nil (w : World) : Strs w (.slice none 0 0) [] := ⟨none, 0, rfl, Nat.le_refl _, by simp [maxLen], fun h => absurd rfl h⟩
/-- the table of the constants is there, and stays -/
structure TabS (w : World) : Prop where
  tab : Tab w
  lt : 1 < w.heap.size
theorem TabS.below {w w' : World} (h : TabS w) (k : Below w.heap.size w w') : TabS w' :=
  ⟨h.tab.kept (Keep.of_below k (fun _ => False)) h.lt (fun h => h), Nat.lt_of_lt_of_le h.lt k.size⟩
end Go.Proofs.YtohifpomdanmkaaGreatDoor
end
section
namespace Go.Proofs.YtohifpomdanmkaaGreatDoor
set_option maxRecDepth 100000
open Go.RowKit
/-- 'string(h[:])' -/
theorem str_row {w : World} {B : Nat} {l : List UInt8} {T : TypeId} {fr : Nat × Nat} (h : w.heap[B]? = some (.cells (ocells l) T fr)) (hl : l.length = 32) :
    (convert 59 9 (.slice (some ⟨B, 0, none⟩) 32 32)).run Tryz.prog w = .ok (.string (bstr l)) w := by
  rw [run_convert_bytes_arg w 59 5 underB (by kernel_rfl) B 0 32 32 (l.map fun b => (b.toNat : Int)) (by simpa using hl) (fun i hi => by
    rw [Nat.zero_add]
    refine er_cellAt h i _ ?_
    have hi' : i < l.length := by omega
    simp [ocells, bcells, bcell, List.getD, hi']) 9 (by kernel_rfl)]
  congr 2
  unfold strOfNums bstr
  congr 1
  simp [List.map_map, Function.comp_def]
theorem cat_three (x : UInt8) (a b : List UInt8) : cat [⟨#[x]⟩, bstr a, bstr b] = x :: (a ++ b) := by
  show sb ⟨#[x]⟩ ++ (sb (bstr a) ++ (sb (bstr b) ++ [])) = _
  rw [sb_bstr, sb_bstr, List.append_nil]
  rfl
theorem cat_two (x : UInt8) (a : List UInt8) : cat [⟨#[x]⟩, bstr a] = x :: a := by
  show sb ⟨#[x]⟩ ++ (sb (bstr a) ++ []) = _
  rw [sb_bstr, List.append_nil]
  rfl
theorem results_row_tmp {fn : Func} {p u : Tmp} (h : fn.results = #[.cell p 23, .tmp u]) (tmps : Array Value) (w : World) (g : Nat) (t : TypeId) (cs : Array Value) (fr : Nat × Nat)
    (hp : tmps.getD p undef = .pointer (some ⟨g, 0, none⟩)) (hg : w.heap[g]? = some (.cells cs t fr)) (hi : (Tryz.prog.info? 23).map (·.size) = some cs.size) :
    (results fn tmps).run Tryz.prog w = .ok (.tuple #[.agg cs, tmps.getD u undef]) w := by
  have hl := run_loadVar_row (P := Tryz.prog) w g t 23 cs fr _ hg underH rfl hi
  rw [results_cell_tmp h, hp]
  simp [asAddr, hl, Result.andThen]
theorem heap_setRow_other (w : World) (g k : Nat) (cs : Array Value) (h : k ≠ g) : (w.setRow g cs).heap[k]? = w.heap[k]? := by
  simp [World.setRow, Array.getElem?_modify, Ne.symm h]
/-- a chain of so many steps -/
def chainN (h : List UInt8) : Nat → List UInt8
  | 0 => h
  | n + 1 => sha (2 :: chainN h n)
theorem chainN_length {h : List UInt8} (hh : h.length = 32) : ∀ n, (chainN h n).length = 32
  | 0 => hh
  | _ + 1 => sha_length _
theorem chainN_add (h : List UInt8) (m : Nat) : ∀ n, chainN (chainN h m) n = chainN h (m + n)
  | 0 => rfl
  | n + 1 => by rw [chainN, chainN_add h m n]; rfl
set_option maxHeartbeats 3200000 in
/-- hash.Chain -/
theorem chain_any (w : World) (h : List UInt8) (hh : h.length = 32) (n : Nat) (hn : n ≤ 255) (hT : TabS w) :
    Calls Tryz.prog 70 #[hv h, .int .i64 (n : Int)] w fun e w' => e = .returned (.tuple #[hv (chainN h n), .nilIface]) ∧ Below w.heap.size w w' := by
  have u0 : ((w.alloc (.cells (ocells h) 23)).alloc (.cells zeros32 23)).heap[w.heap.size]? = some (.cells (ocells h) 23 (0, 0)) := by
    rw [Below.heap_alloc _ _ _ (by simp)]; exact heap_alloc_new _ _
  have u1 : ((w.alloc (.cells (ocells h) 23)).alloc (.cells zeros32 23)).heap[w.heap.size + 1]? = some (.cells zeros32 23 (0, 0)) := by
    simpa using heap_alloc_new (w.alloc (.cells (ocells h) 23)) (.cells zeros32 23)
  have kb : Below w.heap.size w ((w.alloc (.cells (ocells h) 23)).alloc (.cells zeros32 23)) := er_al (er_al (Below.refl _ _) _) _
  have us : ((w.alloc (.cells (ocells h) 23)).alloc (.cells zeros32 23)).heap.size = w.heap.size + 1 + 1 := by simp
  unfold hv
  go_enter Tryz.func70, Tryz.ntmps70
  go_upto_region 1 with (fail)
  change Code.wp _ _ _ _ ((w.alloc (.cells (ocells h) 23)).alloc (.cells zeros32 23))
  generalize (w.alloc (.cells (ocells h) 23)).alloc (.cells zeros32 23) = W at u0 u1 kb us ⊢
  have U0 := Bx.mk u0; have U1 := Bx.mk u1; have KB := Bx.mk kb; have US := Bx.mk us; have HT := Bx.mk hT; have HH := Bx.mk hh
  clear u0 u1 kb us hT hh
  have hn1 : ¬ (n : Int) < 0 := by omega
  have hn2 : ¬ (255 : Int) < (n : Int) := by omega
  go_wp2_with fail
  go_loopw [15] (fun i wr => ∃ t : Nat, t ≤ n ∧ i = .int .i64 (t : Int) ∧ wr.heap[w.heap.size]? = some (.cells (ocells (chainN h t)) 23 (0, 0)) ∧ wr.heap[w.heap.size + 1]? = some (.cells zeros32 23 (0, 0)) ∧ Below w.heap.size w wr) (fun i _ => n - (intOf i).toNat)
  case atStart => exact ⟨0, Nat.zero_le _, rfl, U0.out, U1.out, KB.out⟩
  case round =>
    obtain ⟨t, ht, rfl, hu0, hu1, hb⟩ := hrel
    have hlen := chainN_length HH.out t
    by_cases hlt : t < n
    · have ks := str_row (w := wr) hu0 hlen
      have k3 := er_al (Below.refl wr.heap.size wr) (.cells #[.string ⟨#[2]⟩, .string (bstr (chainN h t))] 9)
      have tr := (HT.out.below hb).below k3
      have hc := sum_any (wr.alloc (.cells #[.string ⟨#[2]⟩, .string (bstr (chainN h t))] 9)) _ [⟨#[2]⟩, bstr (chainN h t)] (strs_two wr _ _ _ rfl) tr.tab tr.lt (by rw [cat_two]; simp; omega)
      rw [cat_two] at hc
      have HC := Bx.mk hc; have K3 := Bx.mk k3; have HU0 := Bx.mk hu0; have HU1 := Bx.mk hu1; have HB := Bx.mk hb; have HL := Bx.mk hlen
      clear hc k3 tr hu0 hu1 hb hlen
      go_wp2_with fail
      refine HC.out.mono ?_
      rintro e w4 ⟨rfl, hb4⟩
      have l0 := (Array.getElem?_eq_some_iff.1 HU0.out).1
      have l1 := (Array.getElem?_eq_some_iff.1 HU1.out).1
      have q0 := (hb4.block _ (Nat.lt_of_lt_of_le l0 K3.out.size)).trans ((K3.out.block _ l0).trans HU0.out)
      have q1 := (hb4.block _ (Nat.lt_of_lt_of_le l1 K3.out.size)).trans ((K3.out.block _ l1).trans HU1.out)
      have q2 : Below w.heap.size w w4 := HB.out.trans ((K3.out.mono HB.out.size).trans (hb4.mono (Nat.le_trans HB.out.size K3.out.size)))
      have hso : (ocells (chainN h t)).size = (ocells (sha (2 :: chainN h t))).size := by rw [ocells_size, ocells_size, HL.out, sha_length]
      have Q0 := Bx.mk q0; have Q1 := Bx.mk q1; have Q2 := Bx.mk q2; have HSZ := Bx.mk (hszL (sha_length (2 :: chainN h t))); have HSO := Bx.mk hso
      clear hb4 q0 q1 q2 l0 l1 hso ks
      go_wp2_with (refine wpList_store_row rfl 23 (.tmp 2) (.tmp 20) rfl w.heap.size (ocells (sha (2 :: chainN h t))) rfl rfl _ _ Q0.out HSZ.out HSO.out (ocells_one _) ?_)
      go_roundw
      case rel =>
        refine ⟨t + 1, hlt, by go_num, setRow_heap _ _ _ _ _ _ Q0.out, ?_, below_setRow Q2.out (Nat.le_refl _) _⟩
        rw [heap_setRow_other _ _ _ _ (by omega)]
        exact Q1.out
      case measure => simp [intOf]; omega
    · obtain rfl : t = n := by omega
      have HU0 := Bx.mk hu0; have HU1 := Bx.mk hu1; have HB := Bx.mk hb; have HSZ := Bx.mk (hszL hlen); have HSO := Bx.mk (hsoL hlen)
      clear hu0 hu1 hb hlen
      go_wp2_with (first
        | refine wpList_load_row rfl 23 (.tmp 2) rfl w.heap.size rfl _ _ _ _ HU0.out underH rfl HSZ.out ?_
        | refine wpList_store_row rfl 23 (.tmp 4) (.tmp 22) rfl (w.heap.size + 1) (ocells (chainN h t)) rfl rfl _ _ HU1.out HSZ.out HSO.out (ocells_one _) ?_)
      exact bodyPost_ret (results_row_tmp rfl _ _ (w.heap.size + 1) _ (ocells (chainN h t)) _ rfl (setRow_heap _ _ _ _ _ _ HU1.out) HSZ.out) rfl ⟨rfl, below_setRow HB.out (by omega) _⟩
end Go.Proofs.YtohifpomdanmkaaGreatDoor
end
section
namespace Go.Proofs.YtohifpomdanmkaaGreatDoor
open Go.RowKit
section
variable {P : Program} {Q : Exit → Act → World → Prop}
theorem wp_load_iface {o : Oper} {a : Act} {w : World} {K : Act → World → Prop} (ty : TypeId) (x : Operand) (ho : o.op = .load ty x)
    (g : Addr) (hx : a.eval x = .pointer (some g)) (v : Value) (hc : w.cell? g = some v) {ms : Array (String × TypeId)} (hu : P.underlying ty = some (.interface ms))
    (h : K (a.put o.dst v) w) : o.wp P a w K Q := by
  unfold Oper.wp execOp
  simp [ho, hx, Instr.loadAt, Instr.sureAddr, loadVar, isAgg, underlying, hu, hc, Result.andThen]
  exact h
/-- the orders of such a region, as one closed fact -/
def zeroOrders (ops : Array Oper) : Bool :=
  ops.size == 4 && Region.ready .any ops #[false, false, false, false] == [0, 1] && Region.ready .any ops #[true, false, false, false] == [1, 2] && Region.ready .any ops #[false, true, false, false] == [0] &&
  Region.ready .any ops #[true, true, false, false] == [2] && Region.ready .any ops #[true, false, true, false] == [1] && Region.ready .any ops #[true, true, true, false] == [3] && Region.ready .any ops #[true, true, true, true] == []
theorem wp_region_zero {id : Nat} {a : Act} {w w' : World} {o0 o1 o2 o3 : Oper} (hm : P.follows .mixedOrders = true) (hr : zeroOrders #[o0, o1, o2, o3] = true)
    (g0 : o0.guard = none) (g1 : o1.guard = none) (g2 : o2.guard = none) (g3 : o3.guard = none) (v0 v1 : Value) (hd : ∀ d, o0.dst = some d → o1.dst ≠ some d)
    (k0 : ∀ (b : Act) (K : Act → World → Prop), K (b.put o0.dst v0) { w with drawn := w.drawn + 1 } → o0.wp P b { w with drawn := w.drawn + 1 } K Q)
    (k1 : ∀ (b : Act) (u : World) (K : Act → World → Prop), (u = { w with drawn := w.drawn + 1 } ∨ u = w') → K (b.put o1.dst v1) u → o1.wp P b u K Q)
    (k2 : ∀ (b : Act) (K : Act → World → Prop), (b = a.put o0.dst v0 ∨ b = (a.put o0.dst v0).put o1.dst v1) → K b w' → o2.wp P b { w with drawn := w.drawn + 1 } K Q)
    (h : o3.wp P ((a.put o0.dst v0).put o1.dst v1) w' (fun b u => Q .normal b u) Q) : (Code.region id #[o0, o1, o2, o3] true).wp P Q a w := by
  simp only [zeroOrders, Bool.and_eq_true, beq_iff_eq] at hr
  obtain ⟨⟨⟨⟨⟨⟨⟨_, r0⟩, r1⟩, r2⟩, r3⟩, r4⟩, r5⟩, r6⟩ := hr
  have hw : ∀ (o : Oper) l, o.guard = none → Region.wanted o l = true := fun o l ho => by simp [Region.wanted, ho]
  have comm : (a.put o1.dst v1).put o0.dst v0 = (a.put o0.dst v0).put o1.dst v1 := (Act.put_comm a v0 v1 hd).symm
  -- the last: everything else is done
  have last : wpAny P .any #[o0, o1, o2, o3] Q 1 #[true, true, true, false] ((a.put o0.dst v0).put o1.dst v1) w' := by
    refine ⟨(fun he => by rw [r5] at he; cases he), fun i hi => ?_⟩
    rw [r5] at hi
    obtain rfl : i = 3 := by simpa using hi
    simp only [wpOp, List.getElem?_toArray, List.getElem?_cons_succ, List.getElem?_cons_zero, hw o3 _ g3, if_true]
    exact .inl (Oper.wp_mono (fun b u hq => ⟨r6, hq⟩) h)
  have s2 : wpAny P .any #[o0, o1, o2, o3] Q 2 #[true, true, false, false] ((a.put o0.dst v0).put o1.dst v1) { w with drawn := w.drawn + 1 } := by
    refine ⟨(fun he => by rw [r3] at he; cases he), fun i hi => ?_⟩
    rw [r3] at hi
    obtain rfl : i = 2 := by simpa using hi
    simp only [wpOp, List.getElem?_toArray, List.getElem?_cons_succ, List.getElem?_cons_zero, hw o2 _ g2, if_true]
    exact .inl (k2 _ _ (.inr rfl) last)
  have s1 : wpAny P .any #[o0, o1, o2, o3] Q 3 #[true, false, false, false] (a.put o0.dst v0) { w with drawn := w.drawn + 1 } := by
    refine ⟨(fun he => by rw [r1] at he; cases he), fun i hi => ?_⟩
    rw [r1] at hi
    rcases (by simpa using hi : i = 1 ∨ i = 2) with rfl | rfl
    · simp only [wpOp, List.getElem?_toArray, List.getElem?_cons_succ, List.getElem?_cons_zero, hw o1 _ g1, if_true]
      exact .inl (k1 _ _ _ (.inl rfl) s2)
    · simp only [wpOp, List.getElem?_toArray, List.getElem?_cons_succ, List.getElem?_cons_zero, hw o2 _ g2, if_true]
      refine .inl (k2 _ _ (.inl rfl) ⟨(fun he => by rw [show (#[true, false, false, false] : Array Bool).setIfInBounds 2 true = #[true, false, true, false] from rfl, r4] at he; cases he), fun i hi => ?_⟩)
      rw [show (#[true, false, false, false] : Array Bool).setIfInBounds 2 true = #[true, false, true, false] from rfl, r4] at hi
      obtain rfl : i = 1 := by simpa using hi
      simp only [wpOp, List.getElem?_toArray, List.getElem?_cons_succ, List.getElem?_cons_zero, hw o1 _ g1, if_true]
      exact .inl (k1 _ _ _ (.inr rfl) last)
  refine wp_region_any hm ⟨(fun he => by rw [show Array.replicate (#[o0, o1, o2, o3] : Array Oper).size false = #[false, false, false, false] from rfl, r0] at he; cases he), fun i hi => ?_⟩
  rw [show Array.replicate (#[o0, o1, o2, o3] : Array Oper).size false = #[false, false, false, false] from rfl, r0] at hi
  rcases (by simpa using hi : i = 0 ∨ i = 1) with rfl | rfl
  · simp only [wpOp, List.getElem?_toArray, List.getElem?_cons_zero, hw o0 _ g0, if_true]
    exact .inl (k0 _ _ s1)
  · simp only [wpOp, List.getElem?_toArray, List.getElem?_cons_succ, List.getElem?_cons_zero, hw o1 _ g1, if_true]
    refine .inl (k1 _ _ _ (.inl rfl) ⟨(fun he => by rw [show (Array.replicate (#[o0, o1, o2, o3] : Array Oper).size false).setIfInBounds 1 true = #[false, true, false, false] from rfl, r2] at he; cases he), fun i hi => ?_⟩)
    rw [show (Array.replicate (#[o0, o1, o2, o3] : Array Oper).size false).setIfInBounds 1 true = #[false, true, false, false] from rfl, r2] at hi
    obtain rfl : i = 0 := by simpa using hi
    simp only [wpOp, List.getElem?_toArray, List.getElem?_cons_zero, hw o0 _ g0, if_true]
    refine .inl (k0 _ _ ?_)
    rw [comm]
    exact s2
end
end Go.Proofs.YtohifpomdanmkaaGreatDoor
end
section
namespace Go.Proofs.YtohifpomdanmkaaGreatDoor
set_option maxRecDepth 100000
open Go.RowKit
def zero32' : List UInt8 := List.replicate 32 0
theorem zero32'_length : zero32'.length = 32 := rfl
end Go.Proofs.YtohifpomdanmkaaGreatDoor
end
section
namespace Go.Proofs.YtohifpomdanmkaaGreatDoor
set_option maxRecDepth 100000
open Go.RowKit
set_option maxRecDepth 1000000 in
theorem sha_nil : sha [] = [227, 176, 196, 66, 152, 252, 28, 20, 154, 251, 244, 200, 153, 111, 185, 36, 39, 174, 65, 228, 100, 155, 147, 76, 164, 149, 153, 27, 120, 82, 184, 85] := by decide +kernel
set_option maxRecDepth 1000000 in
theorem sha_zero : sha [0] = [110, 52, 11, 156, 255, 179, 122, 152, 156, 165, 68, 230, 187, 120, 10, 44, 120, 144, 29, 63, 179, 55, 56, 118, 133, 17, 163, 6, 23, 175, 160, 29] := by decide +kernel
theorem hv_eq (w : World) (a b : List UInt8) (ha : a.length = 32) (hb : b.length = 32) : (binOp .eql 23 (hv a) (hv b)).run Tryz.prog w = .ok (.bool (a == b)) w :=
  run_eql_bytes w 23 5 32 underH (by kernel_rfl) (fun _ => by kernel_rfl) a b ha hb
theorem hv_agg (a : List UInt8) : hv a = .agg (ocells a) := rfl
/-- a row of a hash, new in memory -/
def HashAt (w : World) (n : Nat) (l : List UInt8) : Prop := w.heap[n]? = some (.cells (ocells l) 23 (0, 0)) ∧ l.length = 32
theorem HashAt.lt {w : World} {n : Nat} {l : List UInt8} (h : HashAt w n l) : n < w.heap.size := (Array.getElem?_eq_some_iff.1 h.1).1
theorem HashAt.below {w w' : World} {n : Nat} {l : List UInt8} (h : HashAt w n l) (k : Below w.heap.size w w') : HashAt w' n l := ⟨(k.block n h.lt).trans h.1, h.2⟩
theorem HashAt.new (w : World) (l : List UInt8) (hl : l.length = 32) : HashAt (w.alloc (.cells (ocells l) 23)) w.heap.size l := ⟨heap_alloc_new _ _, hl⟩
theorem HashAt.cell {w : World} {n : Nat} {l : List UInt8} (h : HashAt w n l) (i : Nat) (c : Int) (hc : (ocells l)[i]? = some (.int .u8 c)) : w.cell? ⟨n, i, none⟩ = some (.int .u8 c) := er_cellAt h.1 _ _ hc
end Go.Proofs.YtohifpomdanmkaaGreatDoor
end
section
namespace Go.Proofs.YtohifpomdanmkaaGreatDoor
set_option maxRecDepth 100000
open Go.RowKit
theorem str_src {w : World} {v : Value} {l : List UInt8} (h : Src w v l) (hl : l ≠ []) : (convert 59 9 v).run Tryz.prog w = .ok (.string (bstr l)) w := by
  obtain ⟨a, c, rfl, _, _, _, h3⟩ := h
  obtain ⟨B, off, rfl, _, hc⟩ := h3 hl
  rw [run_convert_bytes_arg w 59 5 underB (by kernel_rfl) B off l.length c (l.map fun b => (b.toNat : Int)) (by simp) (fun i hi => by
    rw [hc i hi]
    simp [bcell, List.getD, hi]) 9 (by kernel_rfl)]
  congr 2
  unfold strOfNums bstr
  congr 1
  simp [List.map_map, Function.comp_def]
end Go.Proofs.YtohifpomdanmkaaGreatDoor
end
section
namespace Go.Proofs.YtohifpomdanmkaaGreatDoor
set_option maxRecDepth 100000
open Go.RowKit
theorem sb_app (s t : ByteArray) : sb (s ++ t) = sb s ++ sb t := by simp [sb]
end Go.Proofs.YtohifpomdanmkaaGreatDoor
end
section
namespace Go.Proofs.YtohifpomdanmkaaGreatDoor
set_option maxRecDepth 100000
open Go.RowKit
theorem er_frozen {w : World} {g : Nat} {cs : Array Value} {T : TypeId} (h : w.heap[g]? = some (.cells cs T (0, 0))) (j : Nat) : w.frozen? ⟨g, j, none⟩ = false := by
  simp [World.frozen?, h]
theorem two_set {X : World} {n : Nat} {u v : Value} {T : TypeId} (h : X.heap[n]? = some (.cells #[u, v] T (0, 0))) (a b : Value) :
    ((X.setCell ⟨n, 0, none⟩ a).setCell ⟨n, 1, none⟩ b).heap[n]? = some (.cells #[a, b] T (0, 0)) ∧ ∀ k, k ≠ n → ((X.setCell ⟨n, 0, none⟩ a).setCell ⟨n, 1, none⟩ b).heap[k]? = X.heap[k]? := by
  constructor
  · simp [World.setCell, Array.getElem?_modify, h]
  · intro k hk
    simp [World.setCell, Array.getElem?_modify, Ne.symm hk]
theorem setRow_alloc2 (w : World) (X Y : Array Value) (T : TypeId) (o : Obj) (n : Nat) (hn : n = w.heap.size) : ((w.alloc (.cells X T)).alloc o).setRow n Y = (w.alloc (.cells Y T)).alloc o := by
  subst hn
  unfold World.setRow World.alloc
  congr 1
  apply Array.ext_getElem?
  intro k
  rw [Array.getElem?_modify]
  by_cases hk : k = w.heap.size
  · subst hk; simp [Array.getElem?_push]
  · by_cases hk2 : k = w.heap.size + 1
    · subst hk2
      rw [if_neg (by omega)]
      have e : ∀ x : Obj, ((w.heap.push x).push o)[w.heap.size + 1]? = some o := fun x => by rw [Array.getElem?_push, if_pos (by simp)]
      exact (e _).trans (e _).symm
    · simp [Array.getElem?_push, hk, hk2, Ne.symm hk]
def fz : Array Value := #[.int .i64 0, .int .i64 0]
end Go.Proofs.YtohifpomdanmkaaGreatDoor
end
