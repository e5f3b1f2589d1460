/- sha.Sum: SHA of texts, one behind the other. -/
import Derived.Test.YtfoknhogclfhhaaDoorRefD
namespace Go.Proofs.YtfoknhogclfhhaaDoor
set_option maxRecDepth 100000
open Go.RowKit
/-- a value that reads as texts -/
def Strs (w : World) (v : Value) (ss : List ByteArray) : Prop :=
  ∃ (a : Option Addr) (cap : Nat), v = .slice a ss.length cap ∧ ss.length ≤ cap ∧ cap ≤ maxLen ∧
    (ss ≠ [] → ∃ B off, a = some ⟨B, off, none⟩ ∧ B < w.heap.size ∧ ∀ i, (h : i < ss.length) → w.cell? ⟨B, off + i, none⟩ = some (.string ss[i]))
def cat (ss : List ByteArray) : List UInt8 := ss.flatMap sb
theorem cat_take_succ (ss : List ByteArray) (t : Nat) (h : t < ss.length) : cat (ss.take (t + 1)) = cat (ss.take t) ++ sb ss[t] := by
  unfold cat
  rw [List.take_succ_eq_append_getElem h, List.flatMap_append, List.flatMap_singleton]
theorem cat_take_le (ss : List ByteArray) (t : Nat) : (cat (ss.take t)).length ≤ (cat ss).length := by
  conv => rhs; rw [← List.take_append_drop t ss]
  unfold cat
  rw [List.flatMap_append, List.length_append]
  omega
/-- '[]byte(s)' as something that reads as bytes -/
theorem bytes_src (w : World) (s : ByteArray) (hs : s.size < 1152921504606846976) :
    OwnF w.heap.size ((w.alloc (.cells (bytesRow s (grownCap w s.size 0 5)) 5 ((bytesRow s (grownCap w s.size 0 5)).size, (bytesRow s (grownCap w s.size 0 5)).size + 1))).drew) (.slice (some ⟨w.heap.size, 0, none⟩) s.size (grownCap w s.size 0 5)) (sb s) :=
  bytesRow_own w s (grownCap w s.size 0 5) (grownCap_ge _ _ _ _) (grownCap_le_maxLen _ _ _ _ (by unfold maxLen; omega)) _ (by
    have hds : s.data.size = s.size := rfl
    unfold bytesRow
    rw [Array.size_append, Array.size_map, Array.size_replicate]
    have := grownCap_ge w s.size 0 5
    omega)
set_option maxHeartbeats 1600000 in
set_option maxRecDepth 100000 in
theorem sum_any (w : World) (v : Value) (ss : List ByteArray) (hv' : Strs w v ss) (hT : Tab w) (hgs : 0 < w.heap.size) (hm : (cat ss).length < 576460752303423488) :
    Calls Tryd.prog 13 #[v] w fun e w' => e = .returned (hv (sha (cat ss))) ∧ Below w.heap.size w w' := by
  obtain ⟨a0, c0, rfl, hc1, hc2, hcs⟩ := hv'
  have r0 : (w.alloc (.cells zeros32 38)).heap[w.heap.size]? = some (.cells zeros32 38 (0, 0)) := heap_alloc_new _ _
  have s0 : (w.alloc (.cells zeros32 38)).heap.size = w.heap.size + 1 := by simp
  have k0 : Below w.heap.size w (w.alloc (.cells zeros32 38)) := (Below.refl _ _).alloc (Nat.le_refl _) _
  have t0 := hT.kept (Keep.of_below k0 (fun _ => False)) hgs (fun h => h)
  have R0' := Bx.mk r0; have S0 := Bx.mk s0; have K0 := Bx.mk k0; have T0 := Bx.mk t0; have CS := Bx.mk hcs
  unfold maxLen at hc2
  clear r0 s0 k0 hT t0 hcs
  go_enter Tryd.func13, Tryd.ntmps13
  go_upto_region 1 with (fail)
  change Code.wp _ _ _ _ (w.alloc (.cells zeros32 38))
  generalize w.alloc (.cells zeros32 38) = W at R0' S0 K0 T0 ⊢
  go_wp2_with fail
  refine (new_any W).mono ?_
  rintro e w1 ⟨v1, p, H, rv, rfl, hN⟩
  have hv1 := hN.val
  subst hv1
  have NN := Bx.mk hN; clear hN
  go_wp2_with fail
  go_loopw [9] (fun i wr => ∃ t rv1, t ≤ ss.length ∧ i = .int .i64 (t : Int) ∧ Dig W.heap.size wr p H rv1 (cat (ss.take t)) ∧ Below W.heap.size W wr) (fun i _ => ss.length - (intOf i).toNat)
  case atStart => exact ⟨0, rv, Nat.zero_le _, rfl, NN.out.dig, NN.out.below⟩
  case round =>
    obtain ⟨t, rv1, ht, rfl, hd, hb⟩ := hrel
    have HD := Bx.mk hd; have HB := Bx.mk hb; clear hd hb
    have hws : w.heap.size < wr.heap.size := by have := HB.out.size; rw [S0.out] at this; omega
    by_cases hlt : t < ss.length
    · obtain ⟨B, off, rfl, hB, hcc⟩ := CS.out (by rintro rfl; simp at hlt)
      have hcell : wr.cell? ⟨B, off + t, none⟩ = some (.string ss[t]) := by
        rw [HB.out.cell (p := ⟨B, off + t, none⟩) (by rw [S0.out]; exact Nat.lt_succ_of_lt hB), K0.out.cell (p := ⟨B, off + t, none⟩) hB]
        exact hcc t hlt
      have hsize : (cat (ss.take t)).length + (sb ss[t]).length < 1152921504606846976 := by
        have := cat_take_le ss (t + 1)
        rw [cat_take_succ ss t hlt, List.length_append] at this
        omega
      generalize hsx : ss[t] = sx at hcell hsize
      have HSX := Bx.mk hsx; clear hsx
      have hsz := hsize
      rw [sb_length] at hsz
      have hso := bytes_src wr sx (by omega)
      have kc := fun (w : World) => run_bytes_of_string (P := Tryd.prog) w 9 30 5 sx (by kernel_rfl) underB (by kernel_rfl)
      have hkb : Keep (fun _ => False) wr ((wr.alloc (.cells (bytesRow sx (grownCap wr sx.size 0 5)) 5 ((bytesRow sx (grownCap wr sx.size 0 5)).size, (bytesRow sx (grownCap wr sx.size 0 5)).size + 1))).drew) :=
        (Keep.alloc (fun _ => False) wr _).trans (Keep.drewN (fun _ => False) _ 1) (fun _ _ h => h)
      have HSO := Bx.mk hso; have HKB := Bx.mk hkb; have HSIZE := Bx.mk hsize
      clear hso hkb hcc hsize hsz
      go_wp2_with fail
      clear kc
      generalize ((wr.alloc (.cells (bytesRow sx (grownCap wr sx.size 0 5)) 5 ((bytesRow sx (grownCap wr sx.size 0 5)).size, (bytesRow sx (grownCap wr sx.size 0 5)).size + 1))).drew) = Z at HSO HKB ⊢
      have d1 := HD.out.kept HKB.out (fun h => h) (fun h => h) (fun _ _ h => h)
      have tz : Tab Z := T0.out.kept ((Keep.of_below HB.out (fun _ => False)).trans HKB.out (fun _ _ h => h)) (by rw [S0.out]; omega) (fun h => h)
      have hne : ∀ k, (Value.slice (some ⟨wr.heap.size, 0, none⟩) sx.size (grownCap wr sx.size 0 5)).ownBlock = some k → k ≠ p ∧ k ≠ H ∧ rv1.ownBlock ≠ some k := fun k hk => by
        have h1 : wr.heap.size = k := by simpa [Value.ownBlock] using hk
        have h2 := (Array.getElem?_eq_some_iff.1 HD.out.hp).1
        have h3 := (Array.getElem?_eq_some_iff.1 HD.out.hH).1
        refine ⟨by omega, by omega, fun h => ?_⟩
        have := (HD.out.hr.lt k h).2
        omega
      have hcw := write_any W.heap.size Z p H rv1 _ _ (sb sx) d1 tz (by rw [S0.out]; omega) HSO.out.src hne HSIZE.out (Nat.le_trans HB.out.size HKB.out.size)
      refine hcw.mono ?_
      rintro e w3 ⟨rfl, rv3, hd3, hk3, ho3⟩
      have hb3 : Below W.heap.size W w3 := HB.out.trans (((HKB.out.mono (S' := DigS p H rv1) (fun _ _ h => h.elim)).trans hk3 (fun k _ h => h)).below HB.out.size (fun k hk => HD.out.ge k hk))
      have D3 := Bx.mk hd3; have B3 := Bx.mk hb3
      clear hd3 hk3 ho3 hcw d1 tz hne hb3
      go_wp2_with fail
      go_roundw
      case rel => exact ⟨t + 1, rv3, hlt, by go_num, by rw [cat_take_succ ss t hlt, HSX.out]; exact D3.out, B3.out⟩
      case measure => simp [intOf]; omega
    · obtain rfl : t = ss.length := by omega
      have hd := HD.out
      rw [List.take_length] at hd
      have tr : Tab wr := T0.out.kept (Keep.of_below HB.out (fun _ => False)) (by rw [S0.out]; omega) (fun h => h)
      have hcd := dsum_any W.heap.size wr p H rv1 (cat ss) hd tr (by have := HB.out.size; rw [S0.out] at this; omega) hm
      have HCD := Bx.mk hcd
      clear hd tr hcd
      go_wp2_with fail
      refine HCD.out.mono ?_
      rintro e w4 ⟨rfl, hb4⟩
      have q1 := (hb4.block w.heap.size hws).trans ((HB.out.block _ (by rw [S0.out]; omega)).trans R0'.out)
      have q2 : Below w.heap.size w w4 := K0.out.trans ((HB.out.mono (by rw [S0.out]; omega)).trans (hb4.mono (by omega)))
      have hsz : (Tryd.prog.info? 38).map (·.size) = some (ocells (sha (cat ss))).size := by rw [sizeH, ocells_size, sha_length]
      have hso : zeros32.size = (ocells (sha (cat ss))).size := by unfold zeros32; rw [ocells_size, ocells_size, sha_length]; rfl
      have Q1 := Bx.mk q1; have Q2 := Bx.mk q2; have HSZ := Bx.mk hsz; have HSO := Bx.mk hso
      clear hb4 q1 q2 hsz hso
      go_wp2_with (refine wpList_store_row rfl 38 (.tmp 2) (.tmp 19) rfl w.heap.size (ocells (sha (cat ss))) rfl rfl _ _ Q1.out HSZ.out HSO.out (ocells_one _) ?_)
      refine bodyPost_ret (results_cell_row rfl _ _ w.heap.size _ (ocells (sha (cat ss))) _ _ rfl (setRow_heap _ _ _ _ _ _ Q1.out) underH rfl HSZ.out) rfl ⟨rfl, below_setRow Q2.out (Nat.le_refl _) _⟩
end Go.Proofs.YtfoknhogclfhhaaDoor
