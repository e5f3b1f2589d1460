/- cartularylaw22.OnetimeGoes walked. -/
import Derived.Test.YtohifpomdanmkaaDoorOri
import Derived.Test.YtohifpomdanmkaaDoorOrk
import Derived.Test.YtohifpomdanmkaaDoorBey
import Derived.Test.YtohifpomdanmkaaDoorRowW
namespace Go.Proofs.YtohifpomdanmkaaDoor
set_option maxRecDepth 100000
open Go.RowKit
/-- the bytes put together -/
def goL (m : List UInt8) (hs : List (List UInt8)) (t : Nat) : List UInt8 := 4 :: (rowOf (goB m hs) t).flatten
theorem goL_succ (m : List UInt8) (hs : List (List UInt8)) (t : Nat) : goL m hs (t + 1) = goL m hs t ++ goB m hs t := by simp [goL, rowOf_succ]
theorem goL_len (m : List UInt8) (hs : List (List UInt8)) (hh : ∀ i, i < 67 → (goB m hs i).length = 32) : ∀ t, t ≤ 67 → (goL m hs t).length = 1 + 32 * t
  | 0, _ => rfl
  | t + 1, h => by rw [goL_succ, List.length_append, goL_len m hs hh t (by omega), hh t (by omega)]; omega
theorem one_src (w : World) (v : Value) (n : Nat) (hn : n = w.heap.size) :
    ∀ ad, some (⟨n, 0, none⟩ : Addr) = some ad → ∀ j x, [v][j]? = some x → (w.alloc (.cells #[v] 5)).cell? (ad.add j) = some x := by
  rintro ad had j x hj
  cases had
  subst hn
  match j, hj with
  | 0, hj => simp at hj; subst hj; simp [Addr.add]
def VG12 (Ba off cap t n7 d : Nat) (px c : List UInt8) (oi : Nat) (v : Value) (own : Nat → Option Nat) (w : World) : Prop :=
  match oi with
  | 0 => v = .slice (some ⟨Ba, off, none⟩) 67 cap
  | 1 => v = .int .i64 (t : Int)
  | 2 => v = .pointer (some ⟨Ba, off + t * 32, none⟩)
  | 3 => v = .agg (ocells (px))
  | 4 => v = .int .i64 (t : Int)
  | 5 => v = .pointer (some ⟨n7, t, none⟩)
  | 6 => v = .int .i64 (d : Int)
  | 7 => v = .int .i64 (15 - (d : Int))
  | 8 => v = .tuple #[.agg (ocells (c)), .nilIface]
  | 9 => v = .tuple #[.agg (ocells (c)), .nilIface]
  | 10 => v = .agg (ocells (c))
  | 11 => v = .nilIface
  | 12 => AllocV own w v 13 23 32
  | 13 => StoredV own w 13 23 (ocells (c))
  | 14 => v = .nilIface
  | _ => True
def VG12mk : Nat → Option Nat := fun j => match j with | 13 => some 12 | _ => none
theorem VG12_mono (Ba off cap t n7 d : Nat) (px c : List UInt8) (oi oj : Nat) (v : Value) (own : Nat → Option Nat) (w : World) (own' : Nat → Option Nat) (w' : World) (hij : oi ≠ oj) (h : VG12 Ba off cap t n7 d px c oj v own w) (r : Rel VG12mk oi own w own' w') : VG12 Ba off cap t n7 d px c oj v own' w' := by
  unfold VG12 at h ⊢
  split at h
  · exact h
  · exact h
  · exact h
  · exact h
  · exact h
  · exact h
  · exact h
  · exact h
  · exact h
  · exact h
  · exact h
  · exact h
  · exact h.stable r rfl hij
  · exact h.stable r hij
  · exact h
  · trivial

def VG16 (a8 : Option Addr) (_n5 c8 : Nat) (L rb : List UInt8) (sl : Nat) (v : Value) (w : World) : Prop :=
  match sl with
  | 63 => v = .nilIface
  | 64 => v = .bool true
  | 65 => v = .bool true
  | 66 => v = .agg (ocells (rb))
  | 67 => v = .slice a8 L.length c8
  | 68 => v = .string (bstr L)
  | 69 => Strs w v [bstr L]
  | 70 => v = .agg (ocells (rb))
  | 71 => v = .bool true
  | 72 => v = .bool true
  | 4 => v = .bool true
  | _ => True
theorem VG16_mono (a8 : Option Addr) (n5 c8 : Nat) (L rb : List UInt8) (sl : Nat) (v : Value) (w w' : World) (h : VG16 a8 n5 c8 L rb sl v w) (k : Below w.heap.size w w') : VG16 a8 n5 c8 L rb sl v w' := by
  unfold VG16 at h ⊢
  split at h
  · exact h
  · exact h
  · exact h
  · exact h
  · exact h
  · exact h
  · exact Strs.below h k
  · exact h
  · exact h
  · exact h
  · exact h
  · trivial

set_option maxHeartbeats 6400000 in
theorem goes_any (A : Nat → Addr) (w : World) (m : List UInt8) (hm : m.length = 32) (ad : Option Addr) (n cap : Nat) (hs : List (List UInt8)) (hH : Hss w (.slice ad n cap) hs) (hT : Hs A w) :
    Calls Tryd.prog 6 #[hv m, .slice ad n cap] w fun e w' => e = .returned (.bool true) ∧ Below w.heap.size w w' := by
  have x0 := HashAt.new w m hm
  have kb := er_al (Below.refl w.heap.size w) (.cells (ocells m) 23)
  obtain ⟨_, c', e1, hc1, hc2⟩ := hH.len
  have hcc : cap = c' := by cases e1; rfl
  subst hcc
  have hn : n = hs.length := by cases e1; rfl
  subst hn
  have ML := Bx.mk hm; have HT := Bx.mk hT; have HHS := Bx.mk hH; have HC := Bx.mk (And.intro hc1 hc2)
  clear hm hT hH e1
  unfold hv
  go_enter Tryd.func6, Tryd.ntmps6
  go_upto_region 1 with (fail)
  change Code.wp _ _ _ _ (w.alloc (.cells (ocells m) 23))
  generalize w.alloc (.cells (ocells m) 23) = W at x0 kb ⊢
  obtain ⟨N, hN⟩ : ∃ N, N = w.heap.size := ⟨_, rfl⟩
  rw [← hN] at x0 ⊢
  have X0 := Bx.mk x0; have K0 := Bx.mk kb
  clear x0 kb hN
  have ca := alive_any A W (HT.out.below K0.out)
  go_wp2_with fail
  refine ca.mono ?_
  clear ca
  rintro e w1 ⟨rfl, hb⟩
  have Y0 := Bx.mk (X0.out.below hb); have K1 := Bx.mk (K0.out.trans (hb.mono K0.out.size))
  clear hb X0 K0
  go_wp2_with fail
  have cb := beyond_any (w1.alloc (.cells #[.int .i64 (hs.length : Int)] 3)) (.slice (some ⟨w1.heap.size, 0, none⟩) 1 1) [hs.length] (ints_one _ _ _ rfl) (by simp; omega)
  have b2 := er_al (Below.refl w1.heap.size w1) (.cells #[.int .i64 (hs.length : Int)] 3)
  refine cb.mono ?_
  clear cb
  rintro e w2 ⟨rfl, hw2⟩
  rw [hw2] at b2
  clear hw2
  have X0 := Bx.mk (Y0.out.below b2); have K2 := Bx.mk (K1.out.trans (b2.mono K1.out.size))
  clear b2 Y0 K1
  rw [show ([hs.length].sum : Nat) = hs.length by simp]
  by_cases hgt : 1048576 < hs.length
  · rw [decide_eq_true hgt]
    have ca := alive_any A w2 (HT.out.below K2.out)
    clear hgt
    go_wp2_with fail
    refine ca.mono ?_
    clear ca
    rintro e w3 ⟨rfl, hb⟩
    have K3 := Bx.mk (K2.out.trans (hb.mono K2.out.size))
    clear hb
    go_wp2_with fail
    exact bodyPost_ret (results_tmp rfl _ _ _) rfl ⟨rfl, K3.out⟩
  · rw [decide_eq_false hgt]
    have HG := Bx.mk hgt
    clear hgt
    go_wp2_with (guard_target =~ wpList _ _ _ (⟨some 22, _, _, _, _, _⟩ :: _) _ _; refine wpList_load_row rfl 23 (.tmp 2) rfl N rfl _ _ _ _ X0.out.1 underH rfl (hszL ML.out) ?_)
    have cr := recover_any A w2 m ML.out _ _ _ _ (HHS.out.below K2.out) (HT.out.below K2.out)
    rw [hv_agg] at cr
    refine cr.mono ?_
    clear cr
    rintro e w3 ⟨rfl, hb⟩
    have Y0 := Bx.mk (X0.out.below hb); have K3 := Bx.mk (K2.out.trans (hb.mono K2.out.size))
    clear hb X0 K2
    by_cases hlen : hs.length = 67
    · unfold recV
      rw [if_pos hlen, hv_agg]
      obtain ⟨rb, hrb⟩ : ∃ b, recoverB m hs = b := ⟨_, rfl⟩
      have RBL := Bx.mk (show rb.length = 32 by rw [← hrb]; exact sha_length _)
      have RB := Bx.mk hrb
      rw [hrb]
      have HLN := Bx.mk hlen
      rw [hlen] at HHS ⊢
      clear hrb hlen hc1 hc2 HC HG
      go_upto_region 4 with (guard_target =~ wpList _ _ _ (⟨none, _, _, _, _, _⟩ :: _) _ _; refine wpList_store_row rfl 23 (.tmp 5) (.tmp 25) rfl w3.heap.size (ocells rb) rfl rfl _ zeros32 (heap_alloc_new _ _) (hszL RBL.out) (hsoL RBL.out) (ocells_one _) ?_; rw [setRow_alloc_new _ _ _ _ _ rfl])
      have x5 := HashAt.new w3 rb RBL.out
      have b5 := er_al (Below.refl w3.heap.size w3) (.cells (ocells rb) 23)
      generalize w3.alloc (.cells (ocells rb) 23) = w4 at x5 b5 ⊢
      generalize w3.heap.size = n5 at x5 ⊢
      have X5 := Bx.mk x5; have X0 := Bx.mk (Y0.out.below b5); have K4 := Bx.mk (K3.out.trans (b5.mono K3.out.size))
      clear b5 x5 Y0 K3
      go_wp2_with (guard_target =~ wpList _ _ _ (⟨some 37, _, _, _, _, _⟩ :: _) _ _; refine wpList_load_row rfl 23 (.tmp 2) rfl N rfl _ _ _ _ X0.out.1 underH rfl (hszL ML.out) ?_)
      have cd := digits22_any w4 m ML.out
      rw [hv_agg] at cd
      refine cd.mono ?_
      clear cd
      rintro e w5 ⟨rfl, hb⟩
      have Z5 := Bx.mk (X5.out.below hb); have K5 := Bx.mk (K4.out.trans (hb.mono K4.out.size))
      clear hb X5 X0 K4
      go_upto_region 7 with (guard_target =~ wpList _ _ _ (⟨none, _, _, _, _, _⟩ :: _) _ _; refine wpList_store_row rfl 42 (.tmp 7) (.tmp 38) rfl w5.heap.size (dcells (dall m)) rfl rfl _ (dcells fun _ => 0) (heap_alloc_new _ _) (sizeA _) (by rw [dcells_size, dcells_size]) (dcells_one _) ?_; rw [setRow_alloc_new _ _ _ _ _ rfl])
      have x7 := heap_alloc_new w5 (.cells (dcells (dall m)) 42)
      have b7 := er_al (Below.refl w5.heap.size w5) (.cells (dcells (dall m)) 42)
      generalize w5.alloc (.cells (dcells (dall m)) 42) = w6 at x7 b7 ⊢
      generalize w5.heap.size = n7 at x7 ⊢
      have X7 := Bx.mk x7; have Z6 := Bx.mk (Z5.out.below b7); have K6 := Bx.mk (K5.out.trans (b7.mono K5.out.size))
      clear b7 x7 Z5 K5
      obtain ⟨i0, hi, hz0, hz1, hz2⟩ := info_parts info8
      have RI := Bx.mk (And.intro hi (And.intro hz0 (And.intro hz1 hz2)))
      clear hi hz0 hz1 hz2
      go_wp2_with (guard_target =~ wpList _ _ _ (⟨some 41, _, _, _, _, _⟩ :: _) _ _; refine wpList_append_src rfl (.tmp 39) (.tmp 40) 47 rfl w6.heap.size 5 i0 (.int .u8 0) 1 1 underB RI.out.1 RI.out.2.1 RI.out.2.2.1 RI.out.2.2.2 rfl (by decide) (.slice none 0 0) 0 [] rfl (World.ownsRow_nil _ _ _ _) (some ⟨w6.heap.size, 0, none⟩) 1 1 [.int .u8 4] rfl (fun h => by cases h) rfl (one_src w6 _ _ rfl) (by simp [Value.oneCell']) (by decide) (by decide) (by simp) ?_; intro v' w8 hown' hgrow _; have O8 := Bx.mk hown'; have G8 := Bx.mk hgrow; clear hown' hgrow)
      have k8 : Below w6.heap.size w6 w8 := (er_al (Below.refl _ _) _).trans ((Keep.of_grown G8.out).below (by simp) (fun k hk => by cases hk))
      have K8 := Bx.mk k8
      clear k8 G8
      go_loopw [8, 9, 10, 11] (fun bv iv _ _ wr => ∃ t : Nat, t ≤ 67 ∧ iv = .int .i64 (t : Int) ∧ Below w6.heap.size w6 wr ∧ wr.ownsRow w6.heap.size 5 1 bv (goL m hs t).length (bcells (goL m hs t))) (fun _ iv _ _ _ => 67 - (intOf iv).toNat)
      case atStart => exact ⟨0, by decide, rfl, K8.out, O8.out⟩
      case round =>
        obtain ⟨t, ht, rfl, hb, ho⟩ := hrel
        have hgb : ∀ i, i < 67 → (goB m hs i).length = 32 := fun i hi => by
          have hti : i < hs.length := by have := HLN.out; omega
          unfold goB
          rw [List.getD_eq_getElem?_getD, List.getElem?_eq_getElem hti]
          exact chainN_length (HHS.out.1 _ (List.getElem_mem hti)) _
        have HGB := Bx.mk hgb
        have KW := Bx.mk (fun u (h : Below w6.heap.size w6 u) => K6.out.trans (h.mono K6.out.size))
        have HB := Bx.mk hb; have HO := Bx.mk ho
        have Z8 := Bx.mk (Z6.out.below hb)
        have y7 := (hb.block _ (Array.getElem?_eq_some_iff.1 X7.out).1).trans X7.out
        clear hgb hb K8 O8
        by_cases hlt : t < 67
        · have hts : t < hs.length := by have := HLN.out; omega
          obtain ⟨a8, c8, rfl, q1, q2, q3⟩ := own_shape ho
          obtain ⟨hnl, hc1', hc2', Ba, off, rfl, hBl, hr, hpl⟩ := (HHS.out.below (KW.out _ HB.out)).at t hts
          have hdl := dall_lt m t
          have hge : goB m hs t = chainN hs[t] (15 - dall m t) := by unfold goB; rw [List.getD_eq_getElem?_getD, List.getElem?_eq_getElem hts]; rfl
          have hcl := HGB.out t hlt
          have hsucc := goL_succ m hs t
          have hgl := goL_len m hs HGB.out t (by omega)
          obtain ⟨px, hpx⟩ : ∃ px, px = hs[t] := ⟨_, rfl⟩
          rw [← hpx] at hr hpl hge
          have cn : ∀ u, Below wr.heap.size wr u → _ := fun u hu => chain_any u px hpl (15 - dall m t) (by omega) ((HT.out.below (KW.out _ HB.out)).below hu).tab
          rw [← hge] at cn
          simp only [hv_agg] at cn
          have hdc := er_cellAt y7 t (.int .i64 (dall m t : Int)) (dcells_get _ _ hlt)
          have hn7 := (Array.getElem?_eq_some_iff.1 y7).1
          generalize goB m hs t = c at cn hcl hge hsucc
          have e15 : ((15 - dall m t : Nat) : Int) = 15 - (dall m t : Int) := by omega
          rw [e15] at cn
          generalize dall m t = d at cn hdl hdc e15 hge
          have HRO := Bx.mk (fun u (hu : Below wr.heap.size wr u) => rangeAt_below hr hBl hu)
          have CN := Bx.mk cn; have CL := Bx.mk hcl; have PX := Bx.mk hpl; have HDC := Bx.mk hdc; have HN7 := Bx.mk hn7; have HD := Bx.mk hdl; have HLT := Bx.mk hlt; have HSU := Bx.mk hsucc; have GLN := Bx.mk hgl
          clear cn hcl hpl hdc hn7 hdl e15 hge hr hBl hpx hnl hsucc hgl ho y7 hc1' hc2' q1 q2 q3
          generalize goL m hs t = L at HO HSU GLN ⊢
          go_upto_region 12 with (fail)
          refine wp_region_own (n := 73) VG12mk (fun _ => none) (VG12 Ba off cap t n7 d px c) (by kernel_rfl) (by kernel_rfl) rfl ?_ ?_ (VG12_mono Ba off cap t n7 d px c) ?_ ?_
          · exact fun _ _ => rfl
          · exact fun _ _ _ _ h => by cases h
          · intro oi o hi f u own hsame hsn hfr hdep
            have hb6 := hsn.below (B := wr.heap.size) (fun _ _ => rfl) (Nat.le_refl _)
            match oi, hi with
            | 0, hi =>
              cases (show some _ = some o from hi)
              have e1 : f.tmps.getD 1 undef = .slice (some ⟨Ba, off, none⟩) 67 cap := hsame.slot 1 (fun i o h => invB2_not 1 (by kernel_rfl) h)
              clear hdep hsame hi hfr
              exact ⟨wanted_none rfl, showsO_move hsn rfl _ rfl e1⟩
            | 1, hi =>
              cases (show some _ = some o from hi)
              have e9 : f.tmps.getD 9 undef = .int .i64 (t : Int) := hsame.slot 9 (fun i o h => invB2_not 9 (by kernel_rfl) h)
              clear hdep hsame hi hfr
              exact ⟨wanted_none rfl, showsO_move hsn rfl _ rfl e9⟩
            | 2, hi =>
              cases (show some _ = some o from hi)
              have e47 : f.tmps.getD 47 undef = .slice (some ⟨Ba, off, none⟩) 67 cap := depO (V := (VG12 Ba off cap t n7 d px c)) hdep 0 47 (by kernel_rfl) (by kernel_rfl)
              have e48 : f.tmps.getD 48 undef = .int .i64 (t : Int) := depO (V := (VG12 Ba off cap t n7 d px c)) hdep 1 48 (by kernel_rfl) (by kernel_rfl)
              clear hdep hsame hi hfr
              have hlt := HLT.out
              exact ⟨wanted_none rfl, showsO_pure hsn rfl (.pointer (some ⟨Ba, off + t * 32, none⟩)) (by simp only [execOp, Act.eval]; go_simp) rfl⟩
            | 3, hi =>
              cases (show some _ = some o from hi)
              have e49 : f.tmps.getD 49 undef = .pointer (some ⟨Ba, off + t * 32, none⟩) := depO (V := (VG12 Ba off cap t n7 d px c)) hdep 2 49 (by kernel_rfl) (by kernel_rfl)
              clear hdep hsame hi hfr
              exact ⟨wanted_none rfl, showsO_mid hsn rfl 23 (.tmp 49) rfl Ba (off + t * 32) e49 (bcells (px)) (HRO.out u hb6) underH rfl (hszB' PX.out) rfl⟩
            | 4, hi =>
              cases (show some _ = some o from hi)
              have e9 : f.tmps.getD 9 undef = .int .i64 (t : Int) := hsame.slot 9 (fun i o h => invB2_not 9 (by kernel_rfl) h)
              clear hdep hsame hi hfr
              exact ⟨wanted_none rfl, showsO_move hsn rfl _ rfl e9⟩
            | 5, hi =>
              cases (show some _ = some o from hi)
              have e7 : f.tmps.getD 7 undef = .pointer (some ⟨n7, 0, none⟩) := hsame.slot 7 (fun i o h => invB2_not 7 (by kernel_rfl) h)
              have e51 : f.tmps.getD 51 undef = .int .i64 (t : Int) := depO (V := (VG12 Ba off cap t n7 d px c)) hdep 4 51 (by kernel_rfl) (by kernel_rfl)
              clear hdep hsame hi hfr
              have hlt := HLT.out
              exact ⟨wanted_none rfl, showsO_pure hsn rfl (.pointer (some ⟨n7, t, none⟩)) (by simp only [execOp, Act.eval]; go_simp) rfl⟩
            | 6, hi =>
              cases (show some _ = some o from hi)
              have e52 : f.tmps.getD 52 undef = .pointer (some ⟨n7, t, none⟩) := depO (V := (VG12 Ba off cap t n7 d px c)) hdep 5 52 (by kernel_rfl) (by kernel_rfl)
              clear hdep hsame hi hfr
              have hc := (hb6.cell (p := ⟨n7, t, none⟩) HN7.out).trans HDC.out
              exact ⟨wanted_none rfl, showsO_pure hsn rfl (.int .i64 (d : Int)) (by simp only [execOp, Act.eval]; go_simp) rfl⟩
            | 7, hi =>
              cases (show some _ = some o from hi)
              have e53 : f.tmps.getD 53 undef = .int .i64 (d : Int) := depO (V := (VG12 Ba off cap t n7 d px c)) hdep 6 53 (by kernel_rfl) (by kernel_rfl)
              clear hdep hsame hi hfr
              have hd := HD.out
              exact ⟨wanted_none rfl, showsO_pure hsn rfl (.int .i64 (15 - (d : Int))) (by simp only [execOp, Act.eval]; go_simp; simp [IntKind.wrap, IntKind.bits, IntKind.signed]; omega) rfl⟩
            | 8, hi =>
              cases (show some _ = some o from hi)
              have e50 : f.tmps.getD 50 undef = .agg (ocells (px)) := depO (V := (VG12 Ba off cap t n7 d px c)) hdep 3 50 (by kernel_rfl) (by kernel_rfl)
              have e54 : f.tmps.getD 54 undef = .int .i64 (15 - (d : Int)) := depO (V := (VG12 Ba off cap t n7 d px c)) hdep 7 54 (by kernel_rfl) (by kernel_rfl)
              clear hdep hsame hi hfr
              exact ⟨wanted_none rfl, showsO_call1 hsn rfl 17 #[.agg (ocells (px)), .int .i64 (15 - (d : Int))] (by simp only [execOp, Act.eval]; go_simp) (CN.out u hb6) (fun _ => rfl)⟩
            | 9, hi =>
              cases (show some _ = some o from hi)
              have e55 : f.tmps.getD 55 undef = .tuple #[.agg (ocells (c)), .nilIface] := depO (V := (VG12 Ba off cap t n7 d px c)) hdep 8 55 (by kernel_rfl) (by kernel_rfl)
              clear hdep hsame hi hfr
              exact ⟨wanted_none rfl, showsO_move hsn rfl _ rfl e55⟩
            | 10, hi =>
              cases (show some _ = some o from hi)
              have e46 : f.tmps.getD 46 undef = .tuple #[.agg (ocells (c)), .nilIface] := depO (V := (VG12 Ba off cap t n7 d px c)) hdep 9 46 (by kernel_rfl) (by kernel_rfl)
              clear hdep hsame hi hfr
              exact ⟨wanted_none rfl, showsO_pure hsn rfl (.agg (ocells (c))) (by simp only [execOp, Act.eval]; go_simp) rfl⟩
            | 11, hi =>
              cases (show some _ = some o from hi)
              have e46 : f.tmps.getD 46 undef = .tuple #[.agg (ocells (c)), .nilIface] := depO (V := (VG12 Ba off cap t n7 d px c)) hdep 9 46 (by kernel_rfl) (by kernel_rfl)
              clear hdep hsame hi hfr
              exact ⟨wanted_none rfl, showsO_pure hsn rfl (.nilIface) (by simp only [execOp, Act.eval]; go_simp) rfl⟩
            | 12, hi =>
              cases (show some _ = some o from hi)
              clear hdep hsame hi
              exact ⟨wanted_none rfl, showsO_alloc hsn hfr rfl zeros32 23 13 rfl (by simp only [execOp, Act.eval]; go_simp; rfl) (fun h => h)⟩
            | 13, hi =>
              cases (show some _ = some o from hi)
              have e10 : AllocV own u (f.tmps.getD 10 undef) 13 23 32 := depO (V := (VG12 Ba off cap t n7 d px c)) hdep 12 10 (by kernel_rfl) (by kernel_rfl)
              have e56 : f.tmps.getD 56 undef = .agg (ocells (c)) := depO (V := (VG12 Ba off cap t n7 d px c)) hdep 10 56 (by kernel_rfl) (by kernel_rfl)
              clear hdep hsame hi hfr
              exact ⟨wanted_none rfl, showsO_store_alloc hsn rfl 23 (.tmp 10) (.tmp 56) rfl e10 (ocells (c)) e56 (hszL CL.out) (by rw [ocells_size, CL.out]) (ocells_one _) (fun _ h => h)⟩
            | 14, hi =>
              cases (show some _ = some o from hi)
              have e57 : f.tmps.getD 57 undef = .nilIface := depO (V := (VG12 Ba off cap t n7 d px c)) hdep 11 57 (by kernel_rfl) (by kernel_rfl)
              clear hdep hsame hi hfr
              exact ⟨wanted_none rfl, showsO_assign hsn rfl _ rfl e57⟩
            | n + 15, hi => exact absurd hi (by simp)
          · intro f u own hsame hsn hall
            have hb6 := hsn.below (B := wr.heap.size) (fun _ _ => rfl) (Nat.le_refl _)
            have q47 : f.tmps.getD 47 undef = .slice (some ⟨Ba, off, none⟩) 67 cap := finO (V := (VG12 Ba off cap t n7 d px c)) hall 0 47 rfl
            have q48 : f.tmps.getD 48 undef = .int .i64 (t : Int) := finO (V := (VG12 Ba off cap t n7 d px c)) hall 1 48 rfl
            have q49 : f.tmps.getD 49 undef = .pointer (some ⟨Ba, off + t * 32, none⟩) := finO (V := (VG12 Ba off cap t n7 d px c)) hall 2 49 rfl
            have q50 : f.tmps.getD 50 undef = .agg (ocells (px)) := finO (V := (VG12 Ba off cap t n7 d px c)) hall 3 50 rfl
            have q51 : f.tmps.getD 51 undef = .int .i64 (t : Int) := finO (V := (VG12 Ba off cap t n7 d px c)) hall 4 51 rfl
            have q52 : f.tmps.getD 52 undef = .pointer (some ⟨n7, t, none⟩) := finO (V := (VG12 Ba off cap t n7 d px c)) hall 5 52 rfl
            have q53 : f.tmps.getD 53 undef = .int .i64 (d : Int) := finO (V := (VG12 Ba off cap t n7 d px c)) hall 6 53 rfl
            have q54 : f.tmps.getD 54 undef = .int .i64 (15 - (d : Int)) := finO (V := (VG12 Ba off cap t n7 d px c)) hall 7 54 rfl
            have q55 : f.tmps.getD 55 undef = .tuple #[.agg (ocells (c)), .nilIface] := finO (V := (VG12 Ba off cap t n7 d px c)) hall 8 55 rfl
            have q46 : f.tmps.getD 46 undef = .tuple #[.agg (ocells (c)), .nilIface] := finO (V := (VG12 Ba off cap t n7 d px c)) hall 9 46 rfl
            have q56 : f.tmps.getD 56 undef = .agg (ocells (c)) := finO (V := (VG12 Ba off cap t n7 d px c)) hall 10 56 rfl
            have q57 : f.tmps.getD 57 undef = .nilIface := finO (V := (VG12 Ba off cap t n7 d px c)) hall 11 57 rfl
            obtain ⟨g10, q10, o10, m10⟩ := AllocV.stored (finO (V := (VG12 Ba off cap t n7 d px c)) hall 12 10 rfl) (finN (V := (VG12 Ba off cap t n7 d px c)) hall 13 rfl)
            have q11 : f.tmps.getD 11 undef = .nilIface := finO (V := (VG12 Ba off cap t n7 d px c)) hall 14 11 rfl
            obtain rfl := frame_eq hsame [(47, .slice (some ⟨Ba, off, none⟩) 67 cap), (48, .int .i64 (t : Int)), (49, .pointer (some ⟨Ba, off + t * 32, none⟩)), (50, .agg (ocells (px))), (51, .int .i64 (t : Int)), (52, .pointer (some ⟨n7, t, none⟩)), (53, .int .i64 (d : Int)), (54, .int .i64 (15 - (d : Int))), (55, .tuple #[.agg (ocells (c)), .nilIface]), (46, .tuple #[.agg (ocells (c)), .nilIface]), (56, .agg (ocells (c))), (57, .nilIface), (10, .pointer (some ⟨g10, 0, none⟩)), (11, .nilIface)] (by kernel_rfl) ⟨q47, q48, q49, q50, q51, q52, q53, q54, q55, q46, q56, q57, q10, q11, trivial⟩
            clear hall hsame q47 q48 q49 q50 q51 q52 q53 q54 q55 q46 q56 q57 q10 q11
            simp only [List.foldl, List.setIfInBounds_toArray, List.set_cons_succ, List.set_cons_zero]
            have BU := Bx.mk (HB.out.trans (hb6.mono HB.out.size))
            have OU := Bx.mk (own_keep HO.out (Keep.of_below hb6 (fun _ => False)) (fun _ _ h => h))
            have SRC := Bx.mk (fun (ad : Addr) (had : some (⟨g10, 0, none⟩ : Addr) = some ad) (j : Nat) (x : Value) (hx : (bcells c)[j]? = some x) => show u.cell? (ad.add j) = some x by
              cases had
              have ea : (⟨g10, 0, none⟩ : Addr).add j = ⟨g10, j, none⟩ := by unfold Addr.add; by_cases h : j = 0 <;> simp [h]
              rw [ea]
              exact er_cellAt m10 j x (by simpa [ocells] using hx))
            have M1 := Bx.mk (show L.length + 32 ≤ maxLen by have := GLN.out; have := HLT.out; unfold maxLen; omega)
            have M2 := Bx.mk (show (L.length + 32) * 1 ≤ 140737488355328 by have := GLN.out; have := HLT.out; omega)
            clear hb6 hsn o10 m10
            go_wp2_with (guard_target =~ wpList _ _ _ (⟨some 62, _, _, _, _, _⟩ :: _) _ _; refine wpList_append_src rfl (.tmp 60) (.tmp 61) 47 rfl w6.heap.size 5 i0 (.int .u8 0) 1 1 underB RI.out.1 RI.out.2.1 RI.out.2.2.1 RI.out.2.2.2 rfl (by decide) (.slice a8 L.length c8) L.length (bcells L) rfl OU.out (some ⟨g10, 0, none⟩) 32 32 (bcells c) rfl (fun h => by cases h) (by simp [bcells_length, CL.out]) SRC.out (bcells_one _) M1.out M2.out BU.out.size ?_; intro v' w9 hown' hgrow _; have O9 := Bx.mk hown'; have G9 := Bx.mk hgrow; clear hown' hgrow)
            have B9 := Bx.mk (BU.out.trans ((Keep.of_grown G9.out).below BU.out.size (fun k hk => ownsRow_fresh OU.out k hk)))
            go_roundw
            case rel => exact ⟨t + 1, HLT.out, by go_num, B9.out, by rw [HSU.out, List.length_append, CL.out, bcells_append]; exact O9.out⟩
            case measure => have := HLT.out; simp [intOf]; omega
        · obtain rfl : t = 67 := by omega
          obtain ⟨a8, c8, rfl, q1, q2, q3⟩ := own_shape ho
          have hsh : sha (goL m hs 67) = rb := RB.out
          have hne : goL m hs 67 ≠ [] := by simp [goL]
          have hgl := goL_len m hs HGB.out 67 (Nat.le_refl _)
          generalize goL m hs 67 = L at hsh hne hgl HO ho ⊢
          have SHL := Bx.mk hsh; have LNE := Bx.mk hne; have GLN := Bx.mk hgl
          clear hsh hne hgl ho q1 q2 q3 y7 hlt ht
          go_upto_region 16 with (fail)
          refine wp_region_inv (n := 73) (VG16 a8 n5 c8 L rb) (by kernel_rfl) (by kernel_rfl) rfl (VG16_mono a8 n5 c8 L rb) ?_ ?_
          · intro oi o hi f u hsame hbel hdep
            have hu := HT.out.below ((KW.out _ HB.out).trans (hbel.mono (KW.out _ HB.out).size))
            match oi, hi with
            | 0, hi =>
              cases (show some _ = some o from hi)
              have e6 : f.tmps.getD 6 undef = .nilIface := hsame.slot 6 (fun _ _ h => invB_not (n := 73) (by kernel_rfl) 6 (by kernel_rfl) h)
              clear hdep hsame hi
              exact ⟨wanted_none rfl, shows_move rfl _ rfl e6⟩
            | 1, hi =>
              cases (show some _ = some o from hi)
              have e63 : f.tmps.getD 63 undef = .nilIface := dep_of (V := (VG16 a8 n5 c8 L rb)) hdep 0 63 (by kernel_rfl) (by kernel_rfl)
              clear hdep hsame hi
              exact ⟨wanted_none rfl, shows_run rfl (.bool true) (by simp only [execOp, Act.eval]; go_simp) (Below.refl _ _) rfl⟩
            | 2, hi =>
              cases (show some _ = some o from hi)
              have e64 : f.tmps.getD 64 undef = .bool true := dep_of (V := (VG16 a8 n5 c8 L rb)) hdep 1 64 (by kernel_rfl) (by kernel_rfl)
              clear hdep hsame hi
              exact ⟨wanted_none rfl, shows_move rfl _ rfl e64⟩
            | 3, hi =>
              cases (show some _ = some o from hi)
              have e5 : f.tmps.getD 5 undef = .pointer (some ⟨n5, 0, none⟩) := hsame.slot 5 (fun _ _ h => invB_not (n := 73) (by kernel_rfl) 5 (by kernel_rfl) h)
              have eg : f.tmps.getD 65 undef = .bool true := dep_of (V := (VG16 a8 n5 c8 L rb)) hdep 2 65 (by kernel_rfl) (by kernel_rfl)
              clear hdep hsame hi
              exact ⟨wanted_of 2 rfl eg (by kernel_rfl), shows_row rfl 23 (.tmp 5) rfl n5 e5 (ocells rb) (Z8.out.below hbel).1 underH rfl (hszL RBL.out) rfl⟩
            | 4, hi =>
              cases (show some _ = some o from hi)
              have e8 : f.tmps.getD 8 undef = .slice a8 L.length c8 := hsame.slot 8 (fun _ _ h => invB_not (n := 73) (by kernel_rfl) 8 (by kernel_rfl) h)
              have eg : f.tmps.getD 65 undef = .bool true := dep_of (V := (VG16 a8 n5 c8 L rb)) hdep 2 65 (by kernel_rfl) (by kernel_rfl)
              clear hdep hsame hi
              exact ⟨wanted_of 2 rfl eg (by kernel_rfl), shows_move rfl _ rfl e8⟩
            | 5, hi =>
              cases (show some _ = some o from hi)
              have e67 : f.tmps.getD 67 undef = .slice a8 L.length c8 := dep_of (V := (VG16 a8 n5 c8 L rb)) hdep 4 67 (by kernel_rfl) (by kernel_rfl)
              have eg : f.tmps.getD 65 undef = .bool true := dep_of (V := (VG16 a8 n5 c8 L rb)) hdep 2 65 (by kernel_rfl) (by kernel_rfl)
              clear hdep hsame hi
              have q := str_src (OwnF.of_row (own_keep HO.out (Keep.of_below hbel (fun _ => False)) (fun _ _ h => h))).src LNE.out
              exact ⟨wanted_of 2 rfl eg (by kernel_rfl), shows_run rfl (.string (bstr L)) (by simp only [execOp, Act.eval]; go_simp) (Below.refl _ _) rfl⟩
            | 6, hi =>
              cases (show some _ = some o from hi)
              have e68 : f.tmps.getD 68 undef = .string (bstr L) := dep_of (V := (VG16 a8 n5 c8 L rb)) hdep 5 68 (by kernel_rfl) (by kernel_rfl)
              have eg : f.tmps.getD 65 undef = .bool true := dep_of (V := (VG16 a8 n5 c8 L rb)) hdep 2 65 (by kernel_rfl) (by kernel_rfl)
              clear hdep hsame hi
              have eq68 : f.tmps[68]?.getD undef = .string (bstr L) := by simpa using e68
              exact ⟨wanted_of 2 rfl eg (by kernel_rfl), shows_run rfl (.slice (some ⟨u.heap.size, 0, none⟩) 1 1) (w' := u.alloc (.cells #[.string (bstr L)] 9)) (by simp only [execOp, Act.eval]; go_simp) (er_al (Below.refl _ _) _) (strs_one u _ _ rfl)⟩
            | 7, hi =>
              cases (show some _ = some o from hi)
              have e69 : Strs u (f.tmps.getD 69 undef) [bstr L] := dep_of (V := (VG16 a8 n5 c8 L rb)) hdep 6 69 (by kernel_rfl) (by kernel_rfl)
              have eg : f.tmps.getD 65 undef = .bool true := dep_of (V := (VG16 a8 n5 c8 L rb)) hdep 2 65 (by kernel_rfl) (by kernel_rfl)
              clear hdep hsame hi
              obtain ⟨vx, hx⟩ : ∃ vx, f.tmps.getD 69 undef = vx := ⟨_, rfl⟩
              rw [hx] at e69
              have c := sum_any u vx [bstr L] e69 hu.tab.tab hu.tab.lt (by rw [cat_one, sb_bstr, GLN.out]; decide)
              rw [cat_one, sb_bstr, SHL.out, hv_agg] at c
              exact ⟨wanted_of 2 rfl eg (by kernel_rfl), shows_call rfl 19 #[vx] (by simp only [execOp, Act.eval]; go_simp) (c) (fun _ => rfl)⟩
            | 8, hi =>
              cases (show some _ = some o from hi)
              have e66 : f.tmps.getD 66 undef = .agg (ocells (rb)) := dep_of (V := (VG16 a8 n5 c8 L rb)) hdep 3 66 (by kernel_rfl) (by kernel_rfl)
              have e70 : f.tmps.getD 70 undef = .agg (ocells (rb)) := dep_of (V := (VG16 a8 n5 c8 L rb)) hdep 7 70 (by kernel_rfl) (by kernel_rfl)
              have eg : f.tmps.getD 65 undef = .bool true := dep_of (V := (VG16 a8 n5 c8 L rb)) hdep 2 65 (by kernel_rfl) (by kernel_rfl)
              clear hdep hsame hi
              have q := fun u => hv_eq u (rb) (rb) RBL.out RBL.out
              simp only [beq_self_eq_true, hv_agg] at q
              exact ⟨wanted_of 2 rfl eg (by kernel_rfl), shows_run rfl (.bool true) (by simp only [execOp, Act.eval]; go_simp) (Below.refl _ _) rfl⟩
            | 9, hi =>
              cases (show some _ = some o from hi)
              have e65 : f.tmps.getD 65 undef = .bool true := dep_of (V := (VG16 a8 n5 c8 L rb)) hdep 2 65 (by kernel_rfl) (by kernel_rfl)
              have e71 : f.tmps.getD 71 undef = .bool true := dep_of (V := (VG16 a8 n5 c8 L rb)) hdep 8 71 (by kernel_rfl) (by kernel_rfl)
              clear hdep hsame hi
              exact ⟨wanted_none rfl, shows_run rfl (.bool true) (by simp only [execOp, Act.eval]; go_simp) (Below.refl _ _) rfl⟩
            | 10, hi =>
              cases (show some _ = some o from hi)
              have e72 : f.tmps.getD 72 undef = .bool true := dep_of (V := (VG16 a8 n5 c8 L rb)) hdep 9 72 (by kernel_rfl) (by kernel_rfl)
              clear hdep hsame hi
              exact ⟨wanted_none rfl, shows_assign rfl _ rfl e72⟩
            | n + 11, hi => exact absurd hi (by simp)
          · intro f u hsame hbel hall
            have e0 : f.tmps.getD 4 undef = .bool true := hall 10 _ 4 rfl rfl
            have hd : f.defers = [] := hsame.defers
            refine ‹∀ (a : Act) (w : World), Code.wp _ Code.ret _ a w → _› f u ?_
            exact wp_ret (bodyPost_ret (results_tmp rfl _ _ _) hd ⟨by rw [e0], (KW.out _ HB.out).trans (hbel.mono (KW.out _ HB.out).size)⟩)
    · unfold recV
      rw [if_neg hlen, hv_agg]
      go_upto_region 4 with (guard_target =~ wpList _ _ _ (⟨none, _, _, _, _, _⟩ :: _) _ _; refine wpList_store_row rfl 23 (.tmp 5) (.tmp 25) rfl w3.heap.size (ocells zero32') rfl rfl _ zeros32 (heap_alloc_new _ _) (hszL z_l) (hsoL z_l) (ocells_one _) ?_; rw [setRow_alloc_new _ _ _ _ _ rfl])
      have x5 := HashAt.new w3 zero32' z_l
      have b5 := er_al (Below.refl w3.heap.size w3) (.cells (ocells zero32') 23)
      generalize w3.alloc (.cells (ocells zero32') 23) = w4 at x5 b5 ⊢
      generalize w3.heap.size = n5 at x5 ⊢
      have X5 := Bx.mk x5; have KB := Bx.mk (K3.out.trans (b5.mono K3.out.size))
      have l1 : ¬ (hs.length : Int) = 67 := by omega
      have l2 : ((hs.length : Int) == 67) = false := by simpa using l1
      clear b5 x5 Y0 K3 hlen
      generalize hs.length = l at l1 l2 ⊢
      have ci := isE_any (HT.out.below KB.out).err (ErrV.plain 1 (by decide)) 2
      have q := fun u => hv_eq u zero32' zero32' z_l z_l
      simp only [beq_self_eq_true, hv_agg] at q
      have q' : ∀ u : World, (binOp .eql 23 (.agg (ocells zero32')) (.agg #[.int .u8 0, .int .u8 0, .int .u8 0, .int .u8 0, .int .u8 0, .int .u8 0, .int .u8 0, .int .u8 0, .int .u8 0, .int .u8 0, .int .u8 0, .int .u8 0, .int .u8 0, .int .u8 0, .int .u8 0, .int .u8 0, .int .u8 0, .int .u8 0, .int .u8 0, .int .u8 0, .int .u8 0, .int .u8 0, .int .u8 0, .int .u8 0, .int .u8 0, .int .u8 0, .int .u8 0, .int .u8 0, .int .u8 0, .int .u8 0, .int .u8 0, .int .u8 0])).run Tryd.prog u = .ok (.bool true) u := q
      go_wp2_with fail
      refine ci.mono ?_
      clear ci
      rintro e w5 ⟨rfl, hb⟩
      have X6 := Bx.mk (X5.out.below hb); have K6 := Bx.mk (KB.out.trans (hb.mono KB.out.size))
      clear hb X5 KB
      go_wp2_with (first
        | (guard_target =~ wpList _ _ _ (⟨some 33, _, _, _, _, _⟩ :: _) _ _; refine wpList_load_row_w (by simp [Region.wanted, yielded]) 23 (.tmp 5) rfl n5 rfl _ _ _ _ X6.out.1 underH rfl (hszL z_l) ?_))
      exact bodyPost_ret (results_tmp rfl _ _ _) rfl ⟨rfl, K6.out⟩
end Go.Proofs.YtohifpomdanmkaaDoor
