/- cartularylaw04.ShaSums walked. -/
import Derived.Test.YtfoknhogclfhhaaDoorSmA
import Derived.Test.YtfoknhogclfhhaaDoorOwn
namespace Go.Proofs.YtfoknhogclfhhaaDoor
set_option maxRecDepth 100000
open Go.RowKit
theorem hsz2 {L : List UInt8} (h : L.length = 32) : (Tryd.prog.info? 38).map (·.size) = some (ocells L).size := by rw [sizeH, ocells_size, h]
theorem hso2 {L : List UInt8} (h : L.length = 32) : zeros32.size = (ocells L).size := by unfold zeros32; rw [ocells_size, ocells_size, h]; rfl
/-- a full stop behind a text -/
def dot (s : ByteArray) : ByteArray := s ++ ⟨#[46]⟩
theorem dot_size (s : ByteArray) : (dot s).size = s.size + 1 := by unfold dot; rw [ByteArray.size_append]; rfl
theorem tsz_dot (ss : List ByteArray) : tsz (ss.map dot) = tsz ss + ss.length := by
  unfold tsz
  induction ss with
  | nil => rfl
  | cons s ss ih =>
    simp only [List.map_cons, List.sum_cons, List.length_cons, dot_size] at ih ⊢
    omega
def dots (ss : List ByteArray) (t : Nat) : List ByteArray := (ss.take t).map dot ++ ss.drop t ++ [markT]
theorem dots_length (ss : List ByteArray) (t : Nat) (h : t ≤ ss.length) : (dots ss t).length = ss.length + 1 := by simp [dots]; omega
theorem dots_at (ss : List ByteArray) (t : Nat) (h : t < ss.length) (h' : t < (dots ss t).length) : (dots ss t)[t] = ss[t] := by
  have e : (dots ss t)[t]? = some ss[t] := by
    unfold dots
    rw [List.append_assoc, List.getElem?_append_right (by simp; omega)]
    simp only [List.length_map, List.length_take, Nat.min_eq_left (Nat.le_of_lt h), Nat.sub_self]
    rw [List.getElem?_append_left (by simp; omega)]
    simp [h]
  rw [List.getElem?_eq_getElem h'] at e
  exact Option.some.inj e
theorem dots_set (ss : List ByteArray) (t : Nat) (h : t < ss.length) : (dots ss t).set t (dot ss[t]) = dots ss (t + 1) := by
  unfold dots
  have hl : ((ss.take t).map dot).length = t := by simp; omega
  rw [List.append_assoc, List.set_append_right _ _ (by omega), hl, Nat.sub_self, List.drop_eq_getElem_cons h, List.cons_append, List.set_cons_zero, List.take_succ_eq_append_getElem h, List.map_append, List.append_assoc, List.append_assoc]
  rfl
theorem dots_zero (ss : List ByteArray) : dots ss 0 = ss ++ [markT] := by simp [dots]
theorem dots_end (ss : List ByteArray) : dots ss ss.length = ss.map dot ++ [markT] := by simp [dots]
def VSm (B L c0 _n4 : Nat) (a0 : Option Addr) (hx : List UInt8) (sl : Nat) (v : Value) (_w : World) : Prop :=
  match sl with
  | 13 => v = .slice (some ⟨B, 0, none⟩) L (L + 1)
  | 14 => v = .agg (ocells (hx))
  | 15 => v = .agg (ocells (hx))
  | 16 => v = .bool false
  | 17 => v = .bool false
  | 18 => v = .slice (some ⟨B, 0, none⟩) L (L + 1)
  | 19 => v = .agg (ocells (hx))
  | 20 => v = .agg (ocells (hx))
  | 21 => v = .bool false
  | 22 => v = .bool false
  | 23 => v = .bool false
  | 24 => v = .slice (some ⟨B, 0, none⟩) L (L + 1)
  | 25 => v = .slice a0 L c0
  | 26 => v = .bool true
  | 27 => v = .bool false
  | 28 => v = .bool false
  | _ => True
theorem VSm_mono (B L c0 n4 : Nat) (a0 : Option Addr) (hx : List UInt8) (sl : Nat) (v : Value) (w w' : World) (h : VSm B L c0 n4 a0 hx sl v w) (_k : Below w.heap.size w w') : VSm B L c0 n4 a0 hx sl v w' := by
  unfold VSm at h ⊢
  split at h
  · exact h
  · exact h
  · exact h
  · exact h
  · exact h
  · exact h
  · exact h
  · exact h
  · exact h
  · exact h
  · exact h
  · exact h
  · exact h
  · exact h
  · exact h
  · exact h
  · trivial

set_option maxHeartbeats 3200000 in
theorem sums_any (w : World) (v : Value) (ss : List ByteArray) (hv' : Strs w v ss) (hz : ∀ s ∈ ss, s.size ≤ 140737488351232) (hT : Tab w) (hgs : 0 < w.heap.size) (hI : TabI w) :
    Calls Tryd.prog 8 #[v] w fun e w' => e = .returned (.bool true) ∧ Below w.heap.size w w' := by
  have hT' : ∀ u, Below w.heap.size w u → Tab u := fun u h => hT.kept (Keep.of_below h (fun _ => False)) hgs (fun h => h)
  have hG' : ∀ u, Below w.heap.size w u → 0 < u.heap.size := fun u h => Nat.lt_of_lt_of_le hgs h.size
  have CB := Bx.mk (beyond04_any w v ss hv' hz)
  have HZZ := Bx.mk hz
  have HV := Bx.mk hv'; have HT := Bx.mk hT'; have HG := Bx.mk hG'; have HI := Bx.mk hI
  obtain ⟨a0, c0, rfl, hc1, hc2, hc3⟩ := hv'
  clear hc3 hT hgs hI hT' hG' hz
  go_enter Tryd.func8, Tryd.ntmps8
  go_wp2_with fail
  refine CB.out.mono ?_
  rintro e w1 ⟨b, rfl, hbb, hb⟩
  have K1 := Bx.mk hb; have HB := Bx.mk hbb
  clear hb hbb CB
  cases b with
  | true =>
    go_wp2_with fail
    go_ret
    exact ⟨rfl, K1.out⟩
  | false =>
    have hts := HB.out rfl
    have hln := tsz_length ss
    have hcl := cat_tsz ss
    have hd := tsz_dot ss
    have hcd := cat_tsz (ss.map dot)
    have hll : ss.length ≤ 1048576 := by omega
    have LN := Bx.mk hll
    have ct := twinT_any w1 a0 ss.length c0 ss (Ro.below (show Ro FT w (.slice a0 ss.length c0) ss from HV.out) K1.out) hll (HI.out.below K1.out)
    have cj : ∀ u, Below w.heap.size w u → _ := fun u hu => join_any u (.slice a0 ss.length c0) ss (Ro.below (F := FT) HV.out hu) (by omega)
    have cr : ∀ u, _ := fun u => rsum_any u ⟨(cat ss).toArray⟩ (by show (cat ss).toArray.size < _; rw [List.size_toArray]; omega)
    rw [show sb ⟨(cat ss).toArray⟩ = cat ss by simp [sb]] at cr
    have csm : ∀ u v', Below w.heap.size w u → Strs u v' ss → _ := fun u v' hu hs => sum_any u v' ss hs (HT.out u hu) (HG.out u hu) (by omega)
    have csd : ∀ u v', Below w.heap.size w u → Strs u v' (ss.map dot) → _ := fun u v' hu hs => sum_any u v' (ss.map dot) hs (HT.out u hu) (HG.out u hu) (by rw [List.length_map] at hcd; omega)
    have cjd : ∀ u v', Strs u v' (ss.map dot) → _ := fun u v' hs => join_any u v' (ss.map dot) hs (by omega)
    have crd : ∀ u, _ := fun u => rsum_any u ⟨(cat (ss.map dot)).toArray⟩ (by show (cat (ss.map dot)).toArray.size < _; rw [List.size_toArray]; rw [List.length_map] at hcd; omega)
    rw [show sb ⟨(cat (ss.map dot)).toArray⟩ = cat (ss.map dot) by simp [sb]] at crd
    have clf : ∀ u v', Below w.heap.size w u → TwinR FT 9 markT u v' ss → _ := fun u v' hu h1 => leftT_any u v' ss a0 ss.length c0 h1 (Ro.below (show Ro FT w (.slice a0 ss.length c0) ss from HV.out) hu) LN.out (HI.out.below hu)
    obtain ⟨hx, hh⟩ : ∃ h, h = sha (cat ss) := ⟨_, rfl⟩
    obtain ⟨h2, hh2⟩ : ∃ h, h = sha (cat (ss.map dot)) := ⟨_, rfl⟩
    have hl : hx.length = 32 := by rw [hh]; exact sha_length _
    have hl2 : h2.length = 32 := by rw [hh2]; exact sha_length _
    simp only [← hh, hv_agg] at cr csm
    simp only [← hh2, hv_agg] at crd csd
    obtain ⟨S1, hS1⟩ : ∃ S : ByteArray, S = ⟨(cat ss).toArray⟩ := ⟨_, rfl⟩
    obtain ⟨S2, hS2⟩ : ∃ S : ByteArray, S = ⟨(cat (ss.map dot)).toArray⟩ := ⟨_, rfl⟩
    simp only [← hS1] at cj cr
    simp only [← hS2] at cjd crd
    have CT := Bx.mk ct; have CJ := Bx.mk cj; have CR := Bx.mk cr; have CSM' := Bx.mk csm; have CSD := Bx.mk csd; have CJD := Bx.mk cjd; have CRD := Bx.mk crd; have CLF' := Bx.mk clf; have HL := Bx.mk hl; have HL2 := Bx.mk hl2
    clear ct cj cr csm csd cjd crd clf hl hl2 hh hh2 hS1 hS2 hts hln hcl hd hcd HB
    obtain ⟨L, hL⟩ : ∃ L, L = ss.length := ⟨_, rfl⟩
    rw [← hL] at CT CJ CLF' LN hll ⊢
    have HLN := Bx.mk hL
    clear hL
    go_wp2_with fail
    refine CT.out.mono ?_
    rintro e w2 ⟨vt, rfl, htw, hob, hb⟩
    have K1' := K1
    have K2 := Bx.mk (K1.out.trans (hb.mono K1.out.size))
    clear CT K1 hb
    have CSM := Bx.mk (fun u (hu : Below w2.heap.size w2 u) => CSM'.out u vt (K2.out.trans (hu.mono K2.out.size)) (((htw.below hu).ro (by rw [← HLN.out]; unfold maxLen; omega))))
    have CLF := Bx.mk (fun u (hu : Below w2.heap.size w2 u) => CLF'.out u vt (K2.out.trans (hu.mono K2.out.size)) (htw.below hu))
    obtain ⟨B, rfl, hB⟩ := htw
    have hbg : w.heap.size ≤ B := by cases hob; exact K1'.out.size
    have BG := Bx.mk hbg
    clear hbg hob K1'
    rw [← HLN.out] at CSM CLF ⊢
    have XB := Bx.mk hB
    clear hB CSM' CLF'
    go_wp2_with fail
    refine (CJ.out w2 K2.out).mono ?_
    rintro e w3 ⟨rfl, hb⟩
    have L3 := Bx.mk hb
    clear hb
    go_wp2_with fail
    refine (CR.out w3).mono ?_
    rintro e w4 ⟨rfl, hb⟩
    have L4 := Bx.mk (L3.out.trans (hb.mono L3.out.size))
    clear hb L3
    go_upto_region 5 with (guard_target =~ wpList _ _ _ (⟨none, _, _, _, _, _⟩ :: _) _ _; refine wpList_store_row rfl 38 (.tmp 4) (.tmp 12) rfl w4.heap.size (ocells hx) rfl rfl _ zeros32 (heap_alloc_new _ _) (hsz2 HL.out) (hso2 HL.out) (ocells_one _) ?_; rw [setRow_alloc_new _ _ _ _ _ rfl])
    have x4 := heap_alloc_new w4 (.cells (ocells hx) 38)
    have hb := (Below.refl w4.heap.size w4).alloc (Nat.le_refl _) (.cells (ocells hx) 38)
    generalize w4.alloc (.cells (ocells hx) 38) = W4 at x4 hb ⊢
    have L5 := Bx.mk (L4.out.trans (hb.mono L4.out.size))
    obtain ⟨n4, hn4⟩ : ∃ n, n = w4.heap.size := ⟨_, rfl⟩
    rw [← hn4] at x4 ⊢
    have X4 := Bx.mk x4
    clear x4 hb hn4 L4
    have CSM0 := CSM; have CLF0 := CLF
    clear CSM CLF
    have CSM := Bx.mk (fun u (hu : Below W4.heap.size W4 u) => CSM0.out u (L5.out.trans (hu.mono L5.out.size)))
    have CLF := Bx.mk (fun u (hu : Below W4.heap.size W4 u) => CLF0.out u (L5.out.trans (hu.mono L5.out.size)))
    clear CSM0 CLF0
    simp only [Act.put]
    refine wp_region_inv (n := 50) (VSm B L c0 n4 a0 hx) (by kernel_rfl) (by kernel_rfl) rfl (VSm_mono B L c0 n4 a0 hx) ?_ ?_
    · intro oi o hi f u hsame hbel hdep
      match oi, hi with
      | 0, hi =>
        cases (show some _ = some o from hi)
        have e3 : f.tmps.getD 3 undef = .slice (some ⟨B, 0, none⟩) L (L + 1) := hsame.slot 3 (fun _ _ h => invB_not (n := 50) (by kernel_rfl) 3 (by kernel_rfl) h)
        clear hdep hsame hi
        exact ⟨wanted_none rfl, shows_move rfl _ rfl e3⟩
      | 1, hi =>
        cases (show some _ = some o from hi)
        have e13 : f.tmps.getD 13 undef = .slice (some ⟨B, 0, none⟩) L (L + 1) := dep_of (V := (VSm B L c0 n4 a0 hx)) hdep 0 13 (by kernel_rfl) (by kernel_rfl)
        clear hdep hsame hi
        have c := CSM.out u hbel
        exact ⟨wanted_none rfl, shows_call rfl 13 #[.slice (some ⟨B, 0, none⟩) L (L + 1)] (by simp only [execOp, Act.eval]; go_simp) (c) (fun _ => rfl)⟩
      | 2, hi =>
        cases (show some _ = some o from hi)
        have e4 : f.tmps.getD 4 undef = .pointer (some ⟨n4, 0, none⟩) := hsame.slot 4 (fun _ _ h => invB_not (n := 50) (by kernel_rfl) 4 (by kernel_rfl) h)
        clear hdep hsame hi
        exact ⟨wanted_none rfl, shows_row rfl 38 (.tmp 4) rfl n4 e4 (ocells hx) ((hbel.block _ (Array.getElem?_eq_some_iff.1 X4.out).1).trans X4.out) underH rfl (hsz2 HL.out) rfl⟩
      | 3, hi =>
        cases (show some _ = some o from hi)
        have e14 : f.tmps.getD 14 undef = .agg (ocells (hx)) := dep_of (V := (VSm B L c0 n4 a0 hx)) hdep 1 14 (by kernel_rfl) (by kernel_rfl)
        have e15 : f.tmps.getD 15 undef = .agg (ocells (hx)) := dep_of (V := (VSm B L c0 n4 a0 hx)) hdep 2 15 (by kernel_rfl) (by kernel_rfl)
        clear hdep hsame hi
        have q := fun u => hv_ne u hx hx HL.out HL.out
        simp only [hv_agg, bne_self_eq_false] at q
        exact ⟨wanted_none rfl, shows_run rfl (.bool false) (by simp only [execOp, Act.eval]; go_simp) (Below.refl _ _) rfl⟩
      | 4, hi =>
        cases (show some _ = some o from hi)
        have e16 : f.tmps.getD 16 undef = .bool false := dep_of (V := (VSm B L c0 n4 a0 hx)) hdep 3 16 (by kernel_rfl) (by kernel_rfl)
        clear hdep hsame hi
        exact ⟨wanted_none rfl, shows_move rfl _ rfl e16⟩
      | 5, hi =>
        cases (show some _ = some o from hi)
        have e3 : f.tmps.getD 3 undef = .slice (some ⟨B, 0, none⟩) L (L + 1) := hsame.slot 3 (fun _ _ h => invB_not (n := 50) (by kernel_rfl) 3 (by kernel_rfl) h)
        have eg : f.tmps.getD 17 undef = .bool false := dep_of (V := (VSm B L c0 n4 a0 hx)) hdep 4 17 (by kernel_rfl) (by kernel_rfl)
        clear hdep hsame hi
        exact ⟨wanted_of 4 rfl eg (by kernel_rfl), shows_move rfl _ rfl e3⟩
      | 6, hi =>
        cases (show some _ = some o from hi)
        have e18 : f.tmps.getD 18 undef = .slice (some ⟨B, 0, none⟩) L (L + 1) := dep_of (V := (VSm B L c0 n4 a0 hx)) hdep 5 18 (by kernel_rfl) (by kernel_rfl)
        have eg : f.tmps.getD 17 undef = .bool false := dep_of (V := (VSm B L c0 n4 a0 hx)) hdep 4 17 (by kernel_rfl) (by kernel_rfl)
        clear hdep hsame hi
        have c := CSM.out u hbel
        exact ⟨wanted_of 4 rfl eg (by kernel_rfl), shows_call rfl 13 #[.slice (some ⟨B, 0, none⟩) L (L + 1)] (by simp only [execOp, Act.eval]; go_simp) (c) (fun _ => rfl)⟩
      | 7, hi =>
        cases (show some _ = some o from hi)
        have e4 : f.tmps.getD 4 undef = .pointer (some ⟨n4, 0, none⟩) := hsame.slot 4 (fun _ _ h => invB_not (n := 50) (by kernel_rfl) 4 (by kernel_rfl) h)
        have eg : f.tmps.getD 17 undef = .bool false := dep_of (V := (VSm B L c0 n4 a0 hx)) hdep 4 17 (by kernel_rfl) (by kernel_rfl)
        clear hdep hsame hi
        exact ⟨wanted_of 4 rfl eg (by kernel_rfl), shows_row rfl 38 (.tmp 4) rfl n4 e4 (ocells hx) ((hbel.block _ (Array.getElem?_eq_some_iff.1 X4.out).1).trans X4.out) underH rfl (hsz2 HL.out) rfl⟩
      | 8, hi =>
        cases (show some _ = some o from hi)
        have e19 : f.tmps.getD 19 undef = .agg (ocells (hx)) := dep_of (V := (VSm B L c0 n4 a0 hx)) hdep 6 19 (by kernel_rfl) (by kernel_rfl)
        have e20 : f.tmps.getD 20 undef = .agg (ocells (hx)) := dep_of (V := (VSm B L c0 n4 a0 hx)) hdep 7 20 (by kernel_rfl) (by kernel_rfl)
        have eg : f.tmps.getD 17 undef = .bool false := dep_of (V := (VSm B L c0 n4 a0 hx)) hdep 4 17 (by kernel_rfl) (by kernel_rfl)
        clear hdep hsame hi
        have q := fun u => hv_ne u hx hx HL.out HL.out
        simp only [hv_agg, bne_self_eq_false] at q
        exact ⟨wanted_of 4 rfl eg (by kernel_rfl), shows_run rfl (.bool false) (by simp only [execOp, Act.eval]; go_simp) (Below.refl _ _) rfl⟩
      | 9, hi =>
        cases (show some _ = some o from hi)
        have e17 : f.tmps.getD 17 undef = .bool false := dep_of (V := (VSm B L c0 n4 a0 hx)) hdep 4 17 (by kernel_rfl) (by kernel_rfl)
        have e21 : f.tmps.getD 21 undef = .bool false := dep_of (V := (VSm B L c0 n4 a0 hx)) hdep 8 21 (by kernel_rfl) (by kernel_rfl)
        clear hdep hsame hi
        exact ⟨wanted_none rfl, shows_run rfl (.bool false) (by simp only [execOp, Act.eval]; go_simp) (Below.refl _ _) rfl⟩
      | 10, hi =>
        cases (show some _ = some o from hi)
        have e22 : f.tmps.getD 22 undef = .bool false := dep_of (V := (VSm B L c0 n4 a0 hx)) hdep 9 22 (by kernel_rfl) (by kernel_rfl)
        clear hdep hsame hi
        exact ⟨wanted_none rfl, shows_move rfl _ rfl e22⟩
      | 11, hi =>
        cases (show some _ = some o from hi)
        have e3 : f.tmps.getD 3 undef = .slice (some ⟨B, 0, none⟩) L (L + 1) := hsame.slot 3 (fun _ _ h => invB_not (n := 50) (by kernel_rfl) 3 (by kernel_rfl) h)
        have eg : f.tmps.getD 23 undef = .bool false := dep_of (V := (VSm B L c0 n4 a0 hx)) hdep 10 23 (by kernel_rfl) (by kernel_rfl)
        clear hdep hsame hi
        exact ⟨wanted_of 10 rfl eg (by kernel_rfl), shows_move rfl _ rfl e3⟩
      | 12, hi =>
        cases (show some _ = some o from hi)
        have e0 : f.tmps.getD 0 undef = .slice a0 L c0 := hsame.slot 0 (fun _ _ h => invB_not (n := 50) (by kernel_rfl) 0 (by kernel_rfl) h)
        have eg : f.tmps.getD 23 undef = .bool false := dep_of (V := (VSm B L c0 n4 a0 hx)) hdep 10 23 (by kernel_rfl) (by kernel_rfl)
        clear hdep hsame hi
        exact ⟨wanted_of 10 rfl eg (by kernel_rfl), shows_move rfl _ rfl e0⟩
      | 13, hi =>
        cases (show some _ = some o from hi)
        have e24 : f.tmps.getD 24 undef = .slice (some ⟨B, 0, none⟩) L (L + 1) := dep_of (V := (VSm B L c0 n4 a0 hx)) hdep 11 24 (by kernel_rfl) (by kernel_rfl)
        have e25 : f.tmps.getD 25 undef = .slice a0 L c0 := dep_of (V := (VSm B L c0 n4 a0 hx)) hdep 12 25 (by kernel_rfl) (by kernel_rfl)
        have eg : f.tmps.getD 23 undef = .bool false := dep_of (V := (VSm B L c0 n4 a0 hx)) hdep 10 23 (by kernel_rfl) (by kernel_rfl)
        clear hdep hsame hi
        have c := CLF.out u hbel
        exact ⟨wanted_of 10 rfl eg (by kernel_rfl), shows_call rfl 24 #[.slice (some ⟨B, 0, none⟩) L (L + 1), .slice a0 L c0] (by simp only [execOp, Act.eval]; go_simp) (c) (fun _ => rfl)⟩
      | 14, hi =>
        cases (show some _ = some o from hi)
        have e26 : f.tmps.getD 26 undef = .bool true := dep_of (V := (VSm B L c0 n4 a0 hx)) hdep 13 26 (by kernel_rfl) (by kernel_rfl)
        have eg : f.tmps.getD 23 undef = .bool false := dep_of (V := (VSm B L c0 n4 a0 hx)) hdep 10 23 (by kernel_rfl) (by kernel_rfl)
        clear hdep hsame hi
        exact ⟨wanted_of 10 rfl eg (by kernel_rfl), shows_run rfl (.bool false) (by simp only [execOp, Act.eval]; go_simp) (Below.refl _ _) rfl⟩
      | 15, hi =>
        cases (show some _ = some o from hi)
        have e23 : f.tmps.getD 23 undef = .bool false := dep_of (V := (VSm B L c0 n4 a0 hx)) hdep 10 23 (by kernel_rfl) (by kernel_rfl)
        have e27 : f.tmps.getD 27 undef = .bool false := dep_of (V := (VSm B L c0 n4 a0 hx)) hdep 14 27 (by kernel_rfl) (by kernel_rfl)
        clear hdep hsame hi
        exact ⟨wanted_none rfl, shows_run rfl (.bool false) (by simp only [execOp, Act.eval]; go_simp) (Below.refl _ _) rfl⟩
      | n + 16, hi => exact absurd hi (by simp)
    · intro f u hsame hbel hall
      have q13 : f.tmps.getD 13 undef = .slice (some ⟨B, 0, none⟩) L (L + 1) := hall 0 _ 13 rfl rfl
      have q14 : f.tmps.getD 14 undef = .agg (ocells (hx)) := hall 1 _ 14 rfl rfl
      have q15 : f.tmps.getD 15 undef = .agg (ocells (hx)) := hall 2 _ 15 rfl rfl
      have q16 : f.tmps.getD 16 undef = .bool false := hall 3 _ 16 rfl rfl
      have q17 : f.tmps.getD 17 undef = .bool false := hall 4 _ 17 rfl rfl
      have q18 : f.tmps.getD 18 undef = .slice (some ⟨B, 0, none⟩) L (L + 1) := hall 5 _ 18 rfl rfl
      have q19 : f.tmps.getD 19 undef = .agg (ocells (hx)) := hall 6 _ 19 rfl rfl
      have q20 : f.tmps.getD 20 undef = .agg (ocells (hx)) := hall 7 _ 20 rfl rfl
      have q21 : f.tmps.getD 21 undef = .bool false := hall 8 _ 21 rfl rfl
      have q22 : f.tmps.getD 22 undef = .bool false := hall 9 _ 22 rfl rfl
      have q23 : f.tmps.getD 23 undef = .bool false := hall 10 _ 23 rfl rfl
      have q24 : f.tmps.getD 24 undef = .slice (some ⟨B, 0, none⟩) L (L + 1) := hall 11 _ 24 rfl rfl
      have q25 : f.tmps.getD 25 undef = .slice a0 L c0 := hall 12 _ 25 rfl rfl
      have q26 : f.tmps.getD 26 undef = .bool true := hall 13 _ 26 rfl rfl
      have q27 : f.tmps.getD 27 undef = .bool false := hall 14 _ 27 rfl rfl
      have q28 : f.tmps.getD 28 undef = .bool false := hall 15 _ 28 rfl rfl
      obtain rfl := frame_eq hsame [(13, .slice (some ⟨B, 0, none⟩) L (L + 1)), (14, .agg (ocells (hx))), (15, .agg (ocells (hx))), (16, .bool false), (17, .bool false), (18, .slice (some ⟨B, 0, none⟩) L (L + 1)), (19, .agg (ocells (hx))), (20, .agg (ocells (hx))), (21, .bool false), (22, .bool false), (23, .bool false), (24, .slice (some ⟨B, 0, none⟩) L (L + 1)), (25, .slice a0 L c0), (26, .bool true), (27, .bool false), (28, .bool false)] (by kernel_rfl) ⟨q13, q14, q15, q16, q17, q18, q19, q20, q21, q22, q23, q24, q25, q26, q27, q28, trivial⟩
      clear hall hsame q13 q14 q15 q16 q17 q18 q19 q20 q21 q22 q23 q24 q25 q26 q27 q28
      simp only [List.foldl, List.setIfInBounds_toArray, List.set_cons_succ, List.set_cons_zero]
      have xb := ((L5.out.trans (hbel.mono L5.out.size)).block B (Array.getElem?_eq_some_iff.1 XB.out).1).trans XB.out
      rw [← dots_zero] at xb
      have K6 := Bx.mk (K2.out.trans ((L5.out.trans (hbel.mono L5.out.size)).mono K2.out.size))
      have XB6 := Bx.mk xb
      clear xb hbel X4 L5 XB CSM CLF
      go_wp2_with fail
      go_loopw [5] (fun i wr => ∃ t : Nat, t ≤ L ∧ i = .int .i64 (t : Int) ∧ wr.heap[B]? = some (.cells (rcells FT (dots ss t)) 9 (0, 0)) ∧ Below w.heap.size w wr) (fun i _ => L - (intOf i).toNat)
      case atStart => exact ⟨0, Nat.zero_le _, rfl, XB6.out, K6.out⟩
      case round =>
        obtain ⟨t, ht, rfl, hxx, hb⟩ := hrel
        have HX := Bx.mk hxx; have BB := Bx.mk hb
        clear hxx hb XB6 K6
        have f3 : ¬ (L : Int) ≤ (t : Int) ↔ (t : Int) < (L : Int) := by omega
        by_cases hlt : t < L
        · have htp : t < ss.length := by rw [← HLN.out]; exact hlt
          have c0 := rcells_cell HX.out t (by rw [dots_length _ _ (by omega)]; omega)
          rw [dots_at ss t htp] at c0
          have c1 := rcells_frozen HX.out t
          have x1 := rcells_store HX.out t (dot ss[t])
          rw [dots_set _ _ htp] at x1
          have hxz : ¬ 9223372036854775807 < ss[t].size + 1 := by have := HZZ.out ss[t] (List.getElem_mem htp); omega
          generalize ss[t] = x at c0 x1 hxz
          have X1 := Bx.mk x1
          unfold FT at c0
          have f1 : ¬ (L : Int) ≤ (t : Int) := by omega
          have f2 : (t : Int) < (L : Int) := by omega
          clear x1 htp f3
          go_wp2_with fail
          go_roundw
          case rel => exact ⟨t + 1, hlt, by go_num, X1.out, BB.out.setCell BG.out _⟩
          case measure => simp [intOf]; omega
        · obtain rfl : t = L := by omega
          clear f3
          have hxx := HX.out
          rw [show dots ss t = ss.map dot ++ [markT] by rw [HLN.out]; exact dots_end ss] at hxx
          have htw : TwinR FT 9 markT wr (.slice (some ⟨B, 0, none⟩) t (t + 1)) (ss.map dot) := ⟨B, by rw [List.length_map, ← HLN.out], hxx⟩
          have hro := htw.ro (by rw [List.length_map, ← HLN.out]; unfold maxLen; omega)
          have cs := CSD.out wr _ BB.out hro
          have CS := Bx.mk cs; have HRO := Bx.mk hro
          clear cs hxx htw hro CSD
          go_wp2_with fail
          refine CS.out.mono ?_
          rintro e w7 ⟨rfl, hb⟩
          have HR7 := Bx.mk (HRO.out.below hb)
          have K7 := Bx.mk (BB.out.trans (hb.mono BB.out.size))
          clear hb CS HRO
          have ct := twinT_any w7 (some ⟨B, 0, none⟩) t (t + 1) (ss.map dot) HR7.out (by rw [List.length_map, ← HLN.out]; exact LN.out) (HI.out.below K7.out)
          have CT := Bx.mk ct
          clear ct
          go_wp2_with fail
          refine CT.out.mono ?_
          rintro e w8 ⟨vt, rfl, htw, _, hb⟩
          have K8 := Bx.mk (K7.out.trans (hb.mono K7.out.size))
          have hro := htw.ro (by rw [List.length_map, ← HLN.out]; unfold maxLen; omega)
          have cj := CJD.out w8 vt hro
          have CJ := Bx.mk cj
          obtain ⟨B2, rfl, _⟩ := htw
          rw [List.length_map, ← HLN.out] at CJ ⊢
          clear hb hro cj CT CJD
          go_wp2_with fail
          refine CJ.out.mono ?_
          rintro e w9 ⟨rfl, hb⟩
          have K9 := Bx.mk (K8.out.trans (hb.mono K8.out.size))
          clear hb CJ
          go_wp2_with fail
          refine (CRD.out w9).mono ?_
          rintro e w10 ⟨rfl, hb⟩
          have K10 := Bx.mk (K9.out.trans (hb.mono K9.out.size))
          have q := fun u => hv_eq u h2 h2 HL2.out HL2.out
          simp only [hv_agg, beq_self_eq_true] at q
          clear hb CRD
          go_wp2_with fail
          go_ret
          exact ⟨rfl, K10.out⟩
end Go.Proofs.YtfoknhogclfhhaaDoor
