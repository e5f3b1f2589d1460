/- onetime.end: all chains as one hash. -/
import Derived.Test.YtohifpomdanmkaaGreatDoorOrc
import Derived.Test.YtohifpomdanmkaaGreatDoorDigQ
import Derived.Test.YtohifpomdanmkaaGreatDoorLeft
namespace Go.Proofs.YtohifpomdanmkaaGreatDoor
set_option maxRecDepth 100000
open Go.RowKit
/-- bytes of a block of one's own, whole -/
theorem src_block {w : World} {g : Nat} {l : List UInt8} {T : TypeId} {fr : Nat × Nat} (h : w.heap[g]? = some (.cells (ocells l) T fr)) (hl : l.length ≤ 64) : Src w (.slice (some ⟨g, 0, none⟩) l.length l.length) l :=
  ⟨_, _, rfl, Nat.le_refl _, by unfold maxLen; omega, (fun e => by cases e), fun _ => ⟨g, 0, rfl, (Array.getElem?_eq_some_iff.1 h).1, fun i hi => er_cellAt h _ _ (by rw [Nat.zero_add]; simp [ocells, bcells, hi])⟩⟩
theorem flat_lenH {hs : List (List UInt8)} (h : ∀ x ∈ hs, x.length = 32) : hs.flatten.length = 32 * hs.length := by
  induction hs with
  | nil => rfl
  | cons x r ih => rw [List.flatten_cons, List.length_append, ih (fun y hy => h y (List.mem_cons_of_mem _ hy)), h x (by simp), List.length_cons]; omega
set_option maxHeartbeats 3200000 in
theorem end_any (w : World) (ad : Option Addr) (n cap : Nat) (hs : List (List UInt8)) (hH : Hss w (.slice ad n cap) hs) (hm : hs.length ≤ 1048576) (hT : TabS w) :
    Calls Tryz.prog 17 #[.slice ad n cap] w fun e w' => e = .returned (hv (sha (4 :: hs.flatten))) ∧ Below w.heap.size w w' := by
  have r0 : (w.alloc (.cells zeros32 23)).heap[w.heap.size]? = some (.cells zeros32 23 (0, 0)) := heap_alloc_new _ _
  have s0 : (w.alloc (.cells zeros32 23)).heap.size = w.heap.size + 1 := by simp
  have k0 : Below w.heap.size w (w.alloc (.cells zeros32 23)) := er_al (Below.refl _ _) _
  obtain ⟨_, c', e1, hc1, hc2⟩ := hH.len
  have hcc : cap = c' := by cases e1; rfl
  subst hcc
  have hn : n = hs.length := by cases e1; rfl
  subst hn
  have hfl := flat_lenH hH.1
  have R0' := Bx.mk r0; have S0 := Bx.mk s0; have K0 := Bx.mk k0; have HHS := Bx.mk (hH.below k0); have T0 := Bx.mk (hT.below k0); have HM := Bx.mk hm; have FLN := Bx.mk hfl
  clear r0 s0 k0 hH hT e1 hfl
  obtain ⟨l, hl⟩ : ∃ l, l = hs.length := ⟨_, rfl⟩
  rw [← hl] at HHS hc1 ⊢
  have HL := Bx.mk hl
  clear hl hm
  go_enter Tryz.func17, Tryz.ntmps17
  go_upto_region 1 with (fail)
  change Code.wp _ _ _ _ (w.alloc (.cells zeros32 23))
  generalize w.alloc (.cells zeros32 23) = W at R0' S0 K0 HHS T0 ⊢
  go_wp2_with fail
  refine (newP W).mono ?_
  rintro e w1 ⟨p, S, rfl, hd, hb⟩
  have D1 := Bx.mk hd; have B1 := Bx.mk hb
  clear hd hb
  go_upto_region 2 with (fail)
  have hx := heap_alloc_new w1 (.cells (ocells [4]) 5)
  have hbx := er_al (Below.refl w1.heap.size w1) (.cells (ocells [4]) 5)
  have hw4 := writeP W.heap.size (w1.alloc (.cells (ocells [4]) 5)) p (.slice (some ⟨w1.heap.size, 0, none⟩) 1 1) [] [4] S (D1.out.below hbx) ((T0.out.below B1.out).below hbx).tab T0.out.lt (src_block hx (by decide))
    (fun k hk h => by have := D1.out.lt k h; have : w1.heap.size = k := by simpa [Value.ownBlock] using hk
                      omega) (by decide) (Nat.le_trans B1.out.size hbx.size)
  have HW := Bx.mk hw4; have BX := Bx.mk hbx
  clear hx hbx hw4
  go_wp2_with fail
  refine HW.out.mono ?_
  rintro e w2 ⟨rfl, hwr⟩
  obtain ⟨S2, hd2, _⟩ := hwr.ex
  have hb2 : Below W.heap.size W w2 := by
    have k1 := B1.out.trans (BX.out.mono B1.out.size)
    exact k1.trans (hwr.keep.below (Nat.le_trans B1.out.size BX.out.size) (fun k hk => D1.out.ge k hk))
  have D2 := Bx.mk (show DigP W.heap.size w2 p [4] S2 from hd2); have B2 := Bx.mk hb2
  clear hwr hd2 hb2 HW BX D1 B1
  go_wp2_with fail
  go_loopw [5, 12] (fun _ iv wr => ∃ (t : Nat) (S : Nat → Prop), t ≤ l ∧ iv = .int .i64 (t : Int) ∧ DigP W.heap.size wr p (4 :: (hs.take t).flatten) S ∧ Below W.heap.size W wr) (fun _ iv _ => l - (intOf iv).toNat)
  case atStart => exact ⟨0, S2, Nat.zero_le _, rfl, D2.out, B2.out⟩
  case round =>
    obtain ⟨t, S3, ht, rfl, hd, hb⟩ := hrel
    have D3 := Bx.mk hd; have B3 := Bx.mk hb
    clear hd hb D2 B2
    by_cases hlt : t < l
    · have hll := HL.out
      have hts : t < hs.length := by omega
      obtain ⟨hnl, hc1', hc2', Ba, off, rfl, hBl, hr, hpl⟩ := (HHS.out.below B3.out).at t hts
      obtain ⟨px, hpx⟩ : ∃ px, px = hs[t] := ⟨_, rfl⟩
      have hsn : (4 : UInt8) :: (hs.take (t + 1)).flatten = (4 :: (hs.take t).flatten) ++ px := by
        rw [List.take_succ_eq_append_getElem hts, List.flatten_append, ← hpx]; simp
      have hlen : (4 :: (hs.take t).flatten : List UInt8).length + px.length < 1152921504606846976 := by
        have h1 := flat_lenH (hs := hs.take t) (fun x hx => HHS.out.1 x (List.mem_of_mem_take hx))
        have h2 := HM.out
        rw [← hpx] at hpl
        rw [List.length_cons, h1, hpl, List.length_take]
        omega
      rw [← hpx] at hr hpl
      have R1 := Bx.mk hr; have PX := Bx.mk hpl; have SN := Bx.mk hsn; have LEN := Bx.mk hlen
      clear hr hpl hsn hlen hpx hBl hll hnl
      go_upto_region 6 with (first
        | (guard_target =~ wpList _ _ _ (⟨some 15, _, _, _, _, _⟩ :: _) _ _; refine wpList_load_mid rfl 23 (.tmp 14) rfl Ba (off + t * 32) rfl (bcells px) _ R1.out underH rfl (hszB' PX.out) ?_)
        | (guard_target =~ wpList _ _ _ (⟨none, _, _, _, _, _⟩ :: _) _ _; refine wpList_store_row rfl 23 (.tmp 5) (.tmp 15) rfl wr.heap.size (ocells px) rfl rfl _ zeros32 (heap_alloc_new _ _) (hszL PX.out) (hsoL PX.out) (ocells_one _) ?_; rw [setRow_alloc_new _ _ _ _ _ rfl]))
      have hx := heap_alloc_new wr (.cells (ocells px) 23)
      have hbx := er_al (Below.refl wr.heap.size wr) (.cells (ocells px) 23)
      have hsrc := src_block hx (by rw [PX.out]; decide)
      rw [PX.out] at hsrc
      have hw4 := writeP W.heap.size (wr.alloc (.cells (ocells px) 23)) p (.slice (some ⟨wr.heap.size, 0, none⟩) 32 32) _ px S3 (D3.out.below hbx) ((T0.out.below B3.out).below hbx).tab T0.out.lt hsrc
        (fun k hk h => by
          have := D3.out.lt k h
          have : wr.heap.size = k := by simpa [Value.ownBlock] using hk
          omega) LEN.out (Nat.le_trans B3.out.size hbx.size)
      have hb3 : Below W.heap.size W (wr.alloc (.cells (ocells px) 23)) := B3.out.trans (hbx.mono B3.out.size)
      have hge := fun k hk => D3.out.ge k hk
      have HW := Bx.mk hw4; have BB := Bx.mk hb3; have GE := Bx.mk hge
      clear hx hbx hsrc hw4 hb3 hge
      generalize wr.alloc (.cells (ocells px) 23) = wx at HW BB ⊢
      go_wp2_with fail
      refine HW.out.mono ?_
      rintro e w3 ⟨rfl, hwr⟩
      obtain ⟨S4, hd4, _⟩ := hwr.ex
      have hb4 : Below W.heap.size W w3 := BB.out.trans (hwr.keep.below BB.out.size GE.out)
      have D4 := Bx.mk hd4; have B4 := Bx.mk hb4
      clear hwr hd4 hb4 HW BB GE
      go_wp2_with fail
      go_roundw
      case rel => exact ⟨t + 1, S4, hlt, by go_num, by rw [SN.out]; exact D4.out, B4.out⟩
      case measure => simp [intOf]; omega
    · obtain rfl : t = l := by omega
      have hll := HL.out
      have hd := D3.out
      rw [hll, List.take_length] at hd
      have hlen : (4 :: hs.flatten : List UInt8).length < 576460752303423488 := by
        rw [List.length_cons, FLN.out]; have := HM.out; omega
      have hcd := dsumP W.heap.size wr p _ S3 hd (T0.out.below B3.out).tab (T0.out.below B3.out).lt hlen
      have HCD := Bx.mk hcd
      clear hd hcd hlen hll
      go_wp2_with fail
      refine HCD.out.mono ?_
      rintro e w4 ⟨rfl, hb4⟩
      have q1 := (hb4.block w.heap.size (by have := B3.out.size; rw [S0.out] at this; omega)).trans ((B3.out.block _ (by rw [S0.out]; omega)).trans R0'.out)
      have q2 : Below w.heap.size w w4 := K0.out.trans ((B3.out.mono (by rw [S0.out]; omega)).trans (hb4.mono (by have := B3.out.size; rw [S0.out] at this; omega)))
      have Q1 := Bx.mk q1; have Q2 := Bx.mk q2
      clear hb4 q1 q2
      go_wp2_with (refine wpList_store_row rfl 23 (.tmp 2) (.tmp 21) rfl w.heap.size (ocells (sha (4 :: hs.flatten))) rfl rfl _ _ Q1.out (hszL (sha_length _)) (hsoL (sha_length _)) (ocells_one _) ?_)
      exact bodyPost_ret (results_cell_row rfl _ _ w.heap.size _ (ocells (sha (4 :: hs.flatten))) _ _ rfl (setRow_heap _ _ _ _ _ _ Q1.out) underH rfl (hszL (sha_length _))) rfl ⟨rfl, below_setRow Q2.out (Nat.le_refl _) _⟩
end Go.Proofs.YtohifpomdanmkaaGreatDoor
