/- cartulary/hash: Node, Chain. -/
import Derived.Test.YtecdaokgnkhgiaaDoorHa
import Derived.BigQuiet
import Derived.Deep.QuietTactic
namespace Go.Proofs.YtecdaokgnkhgiaaDoor
set_option maxRecDepth 100000
open Go.RowKit
/-- 'string(h[:])' -/
theorem str_row {w : World} {B : Nat} {l : List UInt8} {T : TypeId} {fr : Nat × Nat} (h : w.heap[B]? = some (.cells (ocells l) T fr)) (hl : l.length = 32) :
    (convert 56 9 (.slice (some ⟨B, 0, none⟩) 32 32)).run Tryd.prog w = .ok (.string (bstr l)) w := by
  rw [run_convert_bytes_arg w 56 5 underB (by kernel_rfl) B 0 32 32 (l.map fun b => (b.toNat : Int)) (by simpa using hl) (fun i hi => by
    rw [Nat.zero_add]
    refine er_cellAt h i _ ?_
    have hi' : i < l.length := by omega
    simp [ocells, bcells, bcell, List.getD, hi']) 9 (by kernel_rfl)]
  congr 2
  unfold strOfNums bstr
  congr 1
  simp [List.map_map, Function.comp_def]
theorem cat_three (x : UInt8) (a b : List UInt8) : cat [⟨#[x]⟩, bstr a, bstr b] = x :: (a ++ b) := by
  show sb ⟨#[x]⟩ ++ (sb (bstr a) ++ (sb (bstr b) ++ [])) = _
  rw [sb_bstr, sb_bstr, List.append_nil]
  rfl
theorem cat_two (x : UInt8) (a : List UInt8) : cat [⟨#[x]⟩, bstr a] = x :: a := by
  show sb ⟨#[x]⟩ ++ (sb (bstr a) ++ []) = _
  rw [sb_bstr, List.append_nil]
  rfl
theorem results_row_tmp {fn : Func} {p u : Tmp} (h : fn.results = #[.cell p 24, .tmp u]) (tmps : Array Value) (w : World) (g : Nat) (t : TypeId) (cs : Array Value) (fr : Nat × Nat)
    (hp : tmps.getD p undef = .pointer (some ⟨g, 0, none⟩)) (hg : w.heap[g]? = some (.cells cs t fr)) (hi : (Tryd.prog.info? 24).map (·.size) = some cs.size) :
    (results fn tmps).run Tryd.prog w = .ok (.tuple #[.agg cs, tmps.getD u undef]) w := by
  have hl := run_loadVar_row (P := Tryd.prog) w g t 24 cs fr _ hg underH rfl hi
  rw [results_cell_tmp h, hp]
  simp [asAddr, hl, Result.andThen]
theorem heap_setRow_other (w : World) (g k : Nat) (cs : Array Value) (h : k ≠ g) : (w.setRow g cs).heap[k]? = w.heap[k]? := by
  simp [World.setRow, Array.getElem?_modify, Ne.symm h]
set_option maxHeartbeats 3200000 in
/-- hash.Node -/
theorem node_any (w : World) (a b : List UInt8) (ha : a.length = 32) (hb : b.length = 32) (hT : TabS w) :
    Calls Tryd.prog 22 #[hv a, hv b] w fun e w' => e = .returned (hv (sha (1 :: (a ++ b)))) ∧ Below w.heap.size w w' := by
  have u0 : (((w.alloc (.cells (ocells a) 24)).alloc (.cells (ocells b) 24)).alloc (.cells zeros32 24)).heap[w.heap.size]? = some (.cells (ocells a) 24 (0, 0)) := by
    rw [Below.heap_alloc _ _ _ (by simp; omega), Below.heap_alloc _ _ _ (by simp)]; exact heap_alloc_new _ _
  have u1 : (((w.alloc (.cells (ocells a) 24)).alloc (.cells (ocells b) 24)).alloc (.cells zeros32 24)).heap[w.heap.size + 1]? = some (.cells (ocells b) 24 (0, 0)) := by
    rw [Below.heap_alloc _ _ _ (by simp)]; simpa using heap_alloc_new (w.alloc (.cells (ocells a) 24)) (.cells (ocells b) 24)
  have u2 : (((w.alloc (.cells (ocells a) 24)).alloc (.cells (ocells b) 24)).alloc (.cells zeros32 24)).heap[w.heap.size + 1 + 1]? = some (.cells zeros32 24 (0, 0)) := by
    simpa using heap_alloc_new ((w.alloc (.cells (ocells a) 24)).alloc (.cells (ocells b) 24)) (.cells zeros32 24)
  have kb : Below w.heap.size w (((w.alloc (.cells (ocells a) 24)).alloc (.cells (ocells b) 24)).alloc (.cells zeros32 24)) := er_al (er_al (er_al (Below.refl _ _) _) _) _
  have us : (((w.alloc (.cells (ocells a) 24)).alloc (.cells (ocells b) 24)).alloc (.cells zeros32 24)).heap.size = w.heap.size + 1 + 1 + 1 := by simp
  have tb := hT.below kb
  unfold hv
  go_enter Tryd.func22, Tryd.ntmps22
  go_upto_region 1 with (fail)
  change Code.wp _ _ _ _ (((w.alloc (.cells (ocells a) 24)).alloc (.cells (ocells b) 24)).alloc (.cells zeros32 24))
  generalize ((w.alloc (.cells (ocells a) 24)).alloc (.cells (ocells b) 24)).alloc (.cells zeros32 24) = W at u0 u1 u2 kb us tb ⊢
  have k1 := fun n => str_row (w := W.drewN n) u0 ha
  have k2 := fun n => str_row (w := W.drewN n) u1 hb
  have U2 := Bx.mk u2; have KB := Bx.mk kb; have US := Bx.mk us; have TB := Bx.mk tb
  clear u2 kb us tb hT u0 u1
  refine wp_region_quiet_tail (C := fun w' => ∃ n, w' = W.drewN n) 4 (by kernel_rfl) (by kernel_rfl) ⟨1, rfl⟩ ?_
  simp only [List.take_succ_cons, List.take_zero, List.drop_succ_cons, List.drop_zero]
  repeat go_big_quiet_step (fail)
  refine wpQuiet_nil ?_
  intro _ hw'
  obtain ⟨nr, hw''⟩ := hw'
  subst hw''
  have kn : Below W.heap.size W (W.drewN nr) := ⟨rfl, rfl, rfl, Nat.le_refl _, fun _ _ => rfl⟩
  have k3 := er_al kn (.cells #[.string ⟨#[1]⟩, .string (bstr a), .string (bstr b)] 9)
  have hc := sum_any ((W.drewN nr).alloc (.cells #[.string ⟨#[1]⟩, .string (bstr a), .string (bstr b)] 9)) _ [⟨#[1]⟩, bstr a, bstr b] (strs_three (W.drewN nr) _ _ _ _ rfl) (TB.out.below k3).tab (TB.out.below k3).lt (by rw [cat_three]; simp; omega)
  rw [cat_three] at hc
  have HC := Bx.mk hc; have K3 := Bx.mk k3
  clear hc k3 kn k1 k2
  go_wp2_with fail
  refine HC.out.mono ?_
  rintro e w4 ⟨rfl, hb4⟩
  have hlt := (Array.getElem?_eq_some_iff.1 U2.out).1
  have q1 := (hb4.block (w.heap.size + 1 + 1) (Nat.lt_of_lt_of_le hlt K3.out.size)).trans ((K3.out.block _ hlt).trans U2.out)
  have q2 : Below w.heap.size w w4 := KB.out.trans ((K3.out.mono KB.out.size).trans (hb4.mono (Nat.le_trans KB.out.size K3.out.size)))
  have Q1 := Bx.mk q1; have Q2 := Bx.mk q2; have HSZ := Bx.mk (hszL (sha_length (1 :: (a ++ b)))); have HSO := Bx.mk (hsoL (sha_length (1 :: (a ++ b))))
  clear hb4 q1 q2 hlt
  go_wp2_with (refine wpList_store_row rfl 24 (.tmp 4) (.tmp 10) rfl (w.heap.size + 1 + 1) (ocells (sha (1 :: (a ++ b)))) rfl rfl _ _ Q1.out HSZ.out HSO.out (ocells_one _) ?_)
  refine bodyPost_ret (results_cell_row rfl _ _ (w.heap.size + 1 + 1) _ (ocells (sha (1 :: (a ++ b)))) _ _ rfl (setRow_heap _ _ _ _ _ _ Q1.out) underH rfl HSZ.out) rfl ⟨rfl, below_setRow Q2.out (by omega) _⟩
/-- a chain of so many steps -/
def chainN (h : List UInt8) : Nat → List UInt8
  | 0 => h
  | n + 1 => sha (2 :: chainN h n)
theorem chainN_length {h : List UInt8} (hh : h.length = 32) : ∀ n, (chainN h n).length = 32
  | 0 => hh
  | _ + 1 => sha_length _
theorem chainN_add (h : List UInt8) (m : Nat) : ∀ n, chainN (chainN h m) n = chainN h (m + n)
  | 0 => rfl
  | n + 1 => by rw [chainN, chainN_add h m n]; rfl
set_option maxHeartbeats 3200000 in
/-- hash.Chain -/
theorem chain_any (w : World) (h : List UInt8) (hh : h.length = 32) (n : Nat) (hn : n ≤ 255) (hT : TabS w) :
    Calls Tryd.prog 18 #[hv h, .int .i64 (n : Int)] w fun e w' => e = .returned (.tuple #[hv (chainN h n), .nilIface]) ∧ Below w.heap.size w w' := by
  have u0 : ((w.alloc (.cells (ocells h) 24)).alloc (.cells zeros32 24)).heap[w.heap.size]? = some (.cells (ocells h) 24 (0, 0)) := by
    rw [Below.heap_alloc _ _ _ (by simp)]; exact heap_alloc_new _ _
  have u1 : ((w.alloc (.cells (ocells h) 24)).alloc (.cells zeros32 24)).heap[w.heap.size + 1]? = some (.cells zeros32 24 (0, 0)) := by
    simpa using heap_alloc_new (w.alloc (.cells (ocells h) 24)) (.cells zeros32 24)
  have kb : Below w.heap.size w ((w.alloc (.cells (ocells h) 24)).alloc (.cells zeros32 24)) := er_al (er_al (Below.refl _ _) _) _
  have us : ((w.alloc (.cells (ocells h) 24)).alloc (.cells zeros32 24)).heap.size = w.heap.size + 1 + 1 := by simp
  unfold hv
  go_enter Tryd.func18, Tryd.ntmps18
  go_upto_region 1 with (fail)
  change Code.wp _ _ _ _ ((w.alloc (.cells (ocells h) 24)).alloc (.cells zeros32 24))
  generalize (w.alloc (.cells (ocells h) 24)).alloc (.cells zeros32 24) = W at u0 u1 kb us ⊢
  have U0 := Bx.mk u0; have U1 := Bx.mk u1; have KB := Bx.mk kb; have US := Bx.mk us; have HT := Bx.mk hT; have HH := Bx.mk hh
  clear u0 u1 kb us hT hh
  have hn1 : ¬ (n : Int) < 0 := by omega
  have hn2 : ¬ (255 : Int) < (n : Int) := by omega
  go_wp2_with fail
  go_loopw [15] (fun i wr => ∃ t : Nat, t ≤ n ∧ i = .int .i64 (t : Int) ∧ wr.heap[w.heap.size]? = some (.cells (ocells (chainN h t)) 24 (0, 0)) ∧ wr.heap[w.heap.size + 1]? = some (.cells zeros32 24 (0, 0)) ∧ Below w.heap.size w wr) (fun i _ => n - (intOf i).toNat)
  case atStart => exact ⟨0, Nat.zero_le _, rfl, U0.out, U1.out, KB.out⟩
  case round =>
    obtain ⟨t, ht, rfl, hu0, hu1, hb⟩ := hrel
    have hlen := chainN_length HH.out t
    by_cases hlt : t < n
    · have ks := str_row (w := wr) hu0 hlen
      have k3 := er_al (Below.refl wr.heap.size wr) (.cells #[.string ⟨#[2]⟩, .string (bstr (chainN h t))] 9)
      have tr := (HT.out.below hb).below k3
      have hc := sum_any (wr.alloc (.cells #[.string ⟨#[2]⟩, .string (bstr (chainN h t))] 9)) _ [⟨#[2]⟩, bstr (chainN h t)] (strs_two wr _ _ _ rfl) tr.tab tr.lt (by rw [cat_two]; simp; omega)
      rw [cat_two] at hc
      have HC := Bx.mk hc; have K3 := Bx.mk k3; have HU0 := Bx.mk hu0; have HU1 := Bx.mk hu1; have HB := Bx.mk hb; have HL := Bx.mk hlen
      clear hc k3 tr hu0 hu1 hb hlen
      go_wp2_with fail
      refine HC.out.mono ?_
      rintro e w4 ⟨rfl, hb4⟩
      have l0 := (Array.getElem?_eq_some_iff.1 HU0.out).1
      have l1 := (Array.getElem?_eq_some_iff.1 HU1.out).1
      have q0 := (hb4.block _ (Nat.lt_of_lt_of_le l0 K3.out.size)).trans ((K3.out.block _ l0).trans HU0.out)
      have q1 := (hb4.block _ (Nat.lt_of_lt_of_le l1 K3.out.size)).trans ((K3.out.block _ l1).trans HU1.out)
      have q2 : Below w.heap.size w w4 := HB.out.trans ((K3.out.mono HB.out.size).trans (hb4.mono (Nat.le_trans HB.out.size K3.out.size)))
      have hso : (ocells (chainN h t)).size = (ocells (sha (2 :: chainN h t))).size := by rw [ocells_size, ocells_size, HL.out, sha_length]
      have Q0 := Bx.mk q0; have Q1 := Bx.mk q1; have Q2 := Bx.mk q2; have HSZ := Bx.mk (hszL (sha_length (2 :: chainN h t))); have HSO := Bx.mk hso
      clear hb4 q0 q1 q2 l0 l1 hso ks
      go_wp2_with (refine wpList_store_row rfl 24 (.tmp 2) (.tmp 20) rfl w.heap.size (ocells (sha (2 :: chainN h t))) rfl rfl _ _ Q0.out HSZ.out HSO.out (ocells_one _) ?_)
      go_roundw
      case rel =>
        refine ⟨t + 1, hlt, by go_num, setRow_heap _ _ _ _ _ _ Q0.out, ?_, below_setRow Q2.out (Nat.le_refl _) _⟩
        rw [heap_setRow_other _ _ _ _ (by omega)]
        exact Q1.out
      case measure => simp [intOf]; omega
    · obtain rfl : t = n := by omega
      have HU0 := Bx.mk hu0; have HU1 := Bx.mk hu1; have HB := Bx.mk hb; have HSZ := Bx.mk (hszL hlen); have HSO := Bx.mk (hsoL hlen)
      clear hu0 hu1 hb hlen
      go_wp2_with (first
        | refine wpList_load_row rfl 24 (.tmp 2) rfl w.heap.size rfl _ _ _ _ HU0.out underH rfl HSZ.out ?_
        | refine wpList_store_row rfl 24 (.tmp 4) (.tmp 22) rfl (w.heap.size + 1) (ocells (chainN h t)) rfl rfl _ _ HU1.out HSZ.out HSO.out (ocells_one _) ?_)
      exact bodyPost_ret (results_row_tmp rfl _ _ (w.heap.size + 1) _ (ocells (chainN h t)) _ rfl (setRow_heap _ _ _ _ _ _ HU1.out) HSZ.out) rfl ⟨rfl, below_setRow HB.out (by omega) _⟩
end Go.Proofs.YtecdaokgnkhgiaaDoor
