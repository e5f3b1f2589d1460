/- cartulary/hash: Leaf, Empty, Node, one step of a chain; each tells SHA of its bytes. -/
import Derived.Test.YtecdaokgnkhgiaaDoorSum
import Derived.Test.YtecdaokgnkhgiaaDoorErrC
import Derived.Laws.BytesArg
namespace Go.Proofs.YtecdaokgnkhgiaaDoor
set_option maxRecDepth 100000
open Go.RowKit
/-- bytes as a text -/
def bstr (l : List UInt8) : ByteArray := ⟨l.toArray⟩
theorem sb_bstr (l : List UInt8) : sb (bstr l) = l := by simp [sb, bstr]
theorem bstr_size (l : List UInt8) : (bstr l).size = l.length := by simp [bstr, ByteArray.size]
theorem hszL {L : List UInt8} (h : L.length = 32) : (Tryd.prog.info? 24).map (·.size) = some (ocells L).size := by rw [sizeH, ocells_size, h]
theorem hsoL {L : List UInt8} (h : L.length = 32) : zeros32.size = (ocells L).size := by unfold zeros32; rw [ocells_size, ocells_size, h]; rfl
theorem strs_two (w : World) (s t : ByteArray) (n : Nat) (hn : n = w.heap.size) : Strs (w.alloc (.cells #[.string s, .string t] 9)) (.slice (some ⟨n, 0, none⟩) 2 2) [s, t] := by
  subst hn
  exact ⟨_, 2, rfl, Nat.le_refl _, by simp [maxLen], fun _ => ⟨w.heap.size, 0, rfl, by simp, fun i hi => er_cellAt (heap_alloc_new _ _) _ _ (by
    match i, hi with
    | 0, _ => rfl
    | 1, _ => rfl
    | n + 2, h => exact absurd h (by simp))⟩⟩
theorem strs_three (w : World) (s t u : ByteArray) (n : Nat) (hn : n = w.heap.size) : Strs (w.alloc (.cells #[.string s, .string t, .string u] 9)) (.slice (some ⟨n, 0, none⟩) 3 3) [s, t, u] := by
  subst hn
  exact ⟨_, 3, rfl, Nat.le_refl _, by simp [maxLen], fun _ => ⟨w.heap.size, 0, rfl, by simp, fun i hi => er_cellAt (heap_alloc_new _ _) _ _ (by
    match i, hi with
    | 0, _ => rfl
    | 1, _ => rfl
    | 2, _ => rfl
    | n + 3, h => exact absurd h (by simp))⟩⟩
theorem strs_nil (w : World) : Strs w (.slice none 0 0) [] := ⟨none, 0, rfl, Nat.le_refl _, by simp [maxLen], fun h => absurd rfl h⟩
/-- the table of the constants is there, and stays -/
structure TabS (w : World) : Prop where
  tab : Tab w
  lt : 17 < w.heap.size
theorem TabS.below {w w' : World} (h : TabS w) (k : Below w.heap.size w w') : TabS w' :=
  ⟨h.tab.kept (Keep.of_below k (fun _ => False)) h.lt (fun h => h), Nat.lt_of_lt_of_le h.lt k.size⟩
set_option maxHeartbeats 1600000 in
/-- hash.Empty -/
theorem empty_any (w : World) (hT : TabS w) : Calls Tryd.prog 15 #[] w fun e w' => e = .returned (hv (sha [])) ∧ Below w.heap.size w w' := by
  have k1 : Below w.heap.size w (w.alloc (.cells zeros32 24)) := er_al (Below.refl _ _) _
  have r1 : (w.alloc (.cells zeros32 24)).heap[w.heap.size]? = some (.cells zeros32 24 (0, 0)) := heap_alloc_new _ _
  have hc := sum_any (w.alloc (.cells zeros32 24)) _ [] (strs_nil _) (hT.below k1).tab (hT.below k1).lt (by simp [cat])
  have e1 : cat [] = [] := rfl
  rw [e1] at hc
  have HC := Bx.mk hc; have K1 := Bx.mk k1; have R1 := Bx.mk r1
  clear hc k1 r1 e1 hT
  go_enter Tryd.func15, Tryd.ntmps15
  go_upto_region 1 with (fail)
  change Code.wp _ _ _ _ (w.alloc (.cells zeros32 24))
  generalize w.alloc (.cells zeros32 24) = W at HC K1 R1 ⊢
  go_wp2_with fail
  refine HC.out.mono ?_
  rintro e w4 ⟨rfl, hb4⟩
  have hlt := (Array.getElem?_eq_some_iff.1 R1.out).1
  have q1 := (hb4.block w.heap.size hlt).trans R1.out
  have q2 : Below w.heap.size w w4 := K1.out.trans (hb4.mono (Nat.le_of_lt hlt))
  have Q1 := Bx.mk q1; have Q2 := Bx.mk q2; have HSZ := Bx.mk (hszL (sha_length [])); have HSO := Bx.mk (hsoL (sha_length []))
  clear hb4 q1 q2 hlt
  go_wp2_with (refine wpList_store_row rfl 24 (.tmp 0) (.tmp 1) rfl w.heap.size (ocells (sha [])) rfl rfl _ _ Q1.out HSZ.out HSO.out (ocells_one _) ?_)
  refine bodyPost_ret (results_cell_row rfl _ _ w.heap.size _ (ocells (sha [])) _ _ rfl (setRow_heap _ _ _ _ _ _ Q1.out) underH rfl HSZ.out) rfl ⟨rfl, below_setRow Q2.out (Nat.le_refl _) _⟩
set_option maxHeartbeats 1600000 in
/-- hash.Leaf -/
theorem leaf_any (w : World) (s : ByteArray) (hs : s.size < 288230376151711744) (hT : TabS w) : Calls Tryd.prog 13 #[.string s] w fun e w' => e = .returned (hv (sha (0 :: sb s))) ∧ Below w.heap.size w w' := by
  have k1 : Below w.heap.size w (w.alloc (.cells zeros32 24)) := er_al (Below.refl _ _) _
  have r1 : (w.alloc (.cells zeros32 24)).heap[w.heap.size]? = some (.cells zeros32 24 (0, 0)) := heap_alloc_new _ _
  have k2 : Below (w.alloc (.cells zeros32 24)).heap.size (w.alloc (.cells zeros32 24)) ((w.alloc (.cells zeros32 24)).alloc (.cells #[.string ⟨#[0]⟩, .string s] 9)) := er_al (Below.refl _ _) _
  have t1 := hT.below k1
  generalize hW : w.alloc (.cells zeros32 24) = W at k1 r1 k2 t1
  have hc := sum_any (W.alloc (.cells #[.string ⟨#[0]⟩, .string s] 9)) _ [⟨#[0]⟩, s] (strs_two W _ _ _ rfl) (t1.below k2).tab (t1.below k2).lt (by simp [cat, sb]; have : s.data.size = s.size := rfl; omega)
  have e1 : cat [⟨#[0]⟩, s] = 0 :: sb s := by simp [cat, sb]
  rw [e1] at hc
  have HC := Bx.mk hc; have K1 := Bx.mk k1; have R1 := Bx.mk r1; have K2 := Bx.mk k2; have HW := Bx.mk hW
  clear hc k1 r1 e1 hT k2 t1 hW
  go_enter Tryd.func13, Tryd.ntmps13
  go_upto_region 1 with (fail)
  change Code.wp _ _ _ _ (w.alloc (.cells zeros32 24))
  rw [HW.out]
  go_wp2_with fail
  refine HC.out.mono ?_
  rintro e w4 ⟨rfl, hb4⟩
  have hlt := (Array.getElem?_eq_some_iff.1 R1.out).1
  have q1 := (hb4.block w.heap.size (Nat.lt_of_lt_of_le hlt K2.out.size)).trans ((K2.out.block w.heap.size hlt).trans R1.out)
  have q2 : Below w.heap.size w w4 := K1.out.trans ((K2.out.mono K1.out.size).trans (hb4.mono (Nat.le_trans K1.out.size K2.out.size)))
  have Q1 := Bx.mk q1; have Q2 := Bx.mk q2; have HSZ := Bx.mk (hszL (sha_length (0 :: sb s))); have HSO := Bx.mk (hsoL (sha_length (0 :: sb s)))
  clear hb4 q1 q2 hlt
  go_wp2_with (refine wpList_store_row rfl 24 (.tmp 2) (.tmp 5) rfl w.heap.size (ocells (sha (0 :: sb s))) rfl rfl _ _ Q1.out HSZ.out HSO.out (ocells_one _) ?_)
  refine bodyPost_ret (results_cell_row rfl _ _ w.heap.size _ (ocells (sha (0 :: sb s))) _ _ rfl (setRow_heap _ _ _ _ _ _ Q1.out) underH rfl HSZ.out) rfl ⟨rfl, below_setRow Q2.out (Nat.le_refl _) _⟩
end Go.Proofs.YtecdaokgnkhgiaaDoor
