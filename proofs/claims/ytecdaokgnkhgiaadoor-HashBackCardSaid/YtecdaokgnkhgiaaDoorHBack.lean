/- cartularylaw05.HashBack walked. -/
import Derived.Test.YtecdaokgnkhgiaaDoorHReads
import Derived.Test.YtecdaokgnkhgiaaDoorHbP
import Derived.Test.YtecdaokgnkhgiaaDoorRowW
import Derived.Lib.Strings
namespace Go.Proofs.YtecdaokgnkhgiaaDoor
set_option maxRecDepth 100000
open Go.RowKit
theorem hv_ne (w : World) (a b : List UInt8) (ha : a.length = 32) (hb : b.length = 32) : (binOp .neq 24 (hv a) (hv b)).run Tryd.prog w = .ok (.bool (!(a == b))) w := by
  rw [hv_agg, hv_agg]
  show (binOp .neq 24 (.agg (a.map Extern.Stop.cell).toArray) (.agg (b.map Extern.Stop.cell).toArray)).run Tryd.prog w = _
  rw [run_neq_struct, run_equalIn_bytes w 9998 24 5 32 underH (by kernel_rfl) (fun _ => by kernel_rfl) a b ha hb]
  rfl
/-- a hash that was shown is read -/
theorem read_show (A : Nat → Addr) (w : World) (a : List UInt8) (ha : a.length = 32) (hE : Errs w A) :
    Calls Tryd.prog 26 #[.string (bstr (hexL a))] w fun e w' => e = .returned (.tuple #[.agg (ocells a), .nilIface]) ∧ Below w.heap.size w w' := by
  refine (read_any A w (bstr (hexL a)) (by rw [bstr_size, hexL_length, ha]; decide) hE).mono fun e w' ⟨⟨p, hp, ho⟩, hb⟩ => ?_
  rw [sb_bstr] at hp ho
  obtain rfl := readAns_unique hp (readAns_hex a ha)
  rw [show e = _ from ho, rdN_hex64 a ha]
  exact ⟨rfl, hb⟩
theorem cmp_facts {a b : List UInt8} (ha : a.length = 32) (hb : b.length = 32) :
    Op.bytesLess (bstr (hexL a)).toList (bstr (hexL b)).toList = decide (cmpH a b < 0) ∧
    binOp .gtr 9 (.string (bstr (hexL a))) (.string (bstr (hexL b))) = pure (.bool (decide (0 < cmpH a b))) := by
  have hl : (hexL a).length = (hexL b).length := by rw [hexL_length, hexL_length, ha, hb]
  have h1 := less_cmp (hexL a) (hexL b) hl
  rw [cmpH_hex a b (by rw [ha, hb])] at h1
  have e1 : (bstr (hexL a)).toList = hexL a := Lib.toList_data _
  have e2 : (bstr (hexL b)).toList = hexL b := Lib.toList_data _
  have e3 : (hexL a == hexL b) = decide (cmpH a b = 0) := by
    rw [Bool.eq_iff_iff, beq_iff_eq, decide_eq_true_eq]
    exact ⟨fun h => by rw [← cmpH_hex a b (by rw [ha, hb]), h, cmpH_self], fun h => by rw [cmpH_zero (by rw [ha, hb]) h]⟩
  constructor
  · rw [e1, e2, h1.1]
  · have : (!(Op.bytesLess (hexL a) (hexL b) || hexL a == hexL b)) = decide (0 < cmpH a b) := by
      rw [h1.1, e3]
      rcases cmpH_cases a b with h | h | h <;> rw [h] <;> rfl
    simp [binOp, Op.stringOp, e1, e2, this]
set_option maxHeartbeats 6400000 in
theorem hashBack_any (A : Nat → Addr) (w : World) (a b : List UInt8) (ha : a.length = 32) (hb : b.length = 32) (s : ByteArray) (hs : s.size < 9223372036854775808) (hH : Hs A w) :
    Calls Tryd.prog 11 #[hv a, hv b, .string s] w fun e w' => e = .returned (.bool true) ∧ Below w.heap.size w w' := by
  have x0 := (HashAt.new w a ha).below (er_al (Below.refl _ _) (.cells (ocells b) 24))
  have x1 := HashAt.new (w.alloc (.cells (ocells a) 24)) b hb
  rw [show (w.alloc (.cells (ocells a) 24)).heap.size = w.heap.size + 1 by simp] at x1
  have kb : Below w.heap.size w ((w.alloc (.cells (ocells a) 24)).alloc (.cells (ocells b) 24)) := er_al (er_al (Below.refl _ _) _) _
  have HH := Bx.mk hH; have HA := Bx.mk ha; have HB := Bx.mk hb
  have cf := cmp_facts ha hb
  have hab : cmpH a b = 0 ↔ a = b := ⟨fun h => cmpH_zero (by rw [ha, hb]) h, fun h => by rw [h, cmpH_self]⟩
  have hk := cmpH_cases a b
  have c1 := fun u => show_any u a ha
  have c2 := fun u => show_any u b hb
  have c3 := fun u hE => read_show A u a ha hE
  have c4 := fun u => hcmp_any u a b ha hb
  generalize cmpH a b = k at cf hab hk c4
  have hpa : (bstr (hexL a)).size = 64 := by rw [bstr_size, hexL_length, ha]
  generalize bstr (hexL a) = sa at cf c1 c3 hpa
  generalize bstr (hexL b) = sb2 at cf c2
  have CF := Bx.mk cf; have HAB := Bx.mk hab; have C1 := Bx.mk c1; have C2 := Bx.mk c2; have C3 := Bx.mk c3; have C4 := Bx.mk c4; have HPA := Bx.mk hpa; have HK := Bx.mk hk
  clear hH ha hb cf hab c1 c2 c3 c4 hpa hk
  unfold hv
  go_enter Tryd.func11, Tryd.ntmps11
  go_upto_region 1 with (fail)
  change Code.wp _ _ _ _ ((w.alloc (.cells (ocells a) 24)).alloc (.cells (ocells b) 24))
  generalize (w.alloc (.cells (ocells a) 24)).alloc (.cells (ocells b) 24) = W at x0 x1 kb ⊢
  have X0 := Bx.mk x0; have X1 := Bx.mk x1; have KB := Bx.mk kb; clear x0 x1 kb
  go_wp2_with (refine wpList_load_row rfl 24 (.tmp 3) rfl w.heap.size rfl _ _ _ _ X0.out.1 underH rfl (hszL HA.out) ?_)
  refine (C1.out W).mono ?_
  rintro e w1 ⟨rfl, hb⟩
  have B1 := Bx.mk (KB.out.trans (hb.mono KB.out.size)); have Y0 := Bx.mk (X0.out.below hb); have Y1 := Bx.mk (X1.out.below hb); clear hb X0 X1
  go_wp2_with fail
  refine (C3.out w1 (HH.out.below B1.out).err).mono ?_
  rintro e w2 ⟨rfl, hb⟩
  have B2 := Bx.mk (B1.out.trans (hb.mono B1.out.size)); have X0 := Bx.mk (Y0.out.below hb); have X1 := Bx.mk (Y1.out.below hb); clear hb Y0 Y1 B1
  go_upto_region 2 with (refine wpList_store_row rfl 24 (.tmp 7) (.tmp 20) rfl w2.heap.size (ocells a) rfl rfl _ zeros32 (heap_alloc_new _ _) (hszL HA.out) (hsoL HA.out) (ocells_one _) ?_; rw [setRow_alloc_new _ _ _ _ _ rfl])
  have x2 := HashAt.new w2 a HA.out
  have b2 := er_al (Below.refl w2.heap.size w2) (.cells (ocells a) 24)
  generalize w2.alloc (.cells (ocells a) 24) = w3 at x2 b2 ⊢
  generalize w2.heap.size = n2 at x2 ⊢
  have B3 := Bx.mk (B2.out.trans (b2.mono B2.out.size)); have Y0 := Bx.mk (X0.out.below b2); have Y1 := Bx.mk (X1.out.below b2); have Y2 := Bx.mk x2; clear b2 X0 X1 x2 B2
  go_wp2_with (refine wpList_load_row rfl 24 (.tmp 3) rfl w.heap.size rfl _ _ _ _ Y0.out.1 underH rfl (hszL HA.out) ?_)
  refine (C1.out w3).mono ?_
  rintro e w4 ⟨rfl, hb⟩
  have B4 := Bx.mk (B3.out.trans (hb.mono B3.out.size)); have X0 := Bx.mk (Y0.out.below hb); have X1 := Bx.mk (Y1.out.below hb); have X2 := Bx.mk (Y2.out.below hb); clear hb Y0 Y1 Y2 B3
  go_wp2_with (refine wpList_load_row rfl 24 (.tmp 4) rfl (w.heap.size + 1) rfl _ _ _ _ X1.out.1 underH rfl (hszL HB.out) ?_)
  refine (C2.out w4).mono ?_
  rintro e w5 ⟨rfl, hb⟩
  have B5 := Bx.mk (B4.out.trans (hb.mono B4.out.size)); have Y0 := Bx.mk (X0.out.below hb); have Y1 := Bx.mk (X1.out.below hb); have Y2 := Bx.mk (X2.out.below hb); clear hb X0 X1 X2 B4
  go_wp2_with (first
    | refine wpList_load_row rfl 24 (.tmp 3) rfl w.heap.size rfl _ _ _ _ Y0.out.1 underH rfl (hszL HA.out) ?_
    | refine wpList_load_row rfl 24 (.tmp 4) rfl (w.heap.size + 1) rfl _ _ _ _ Y1.out.1 underH rfl (hszL HB.out) ?_)
  refine (C4.out w5).mono ?_
  rintro e w6 ⟨rfl, hb⟩
  have B6 := Bx.mk (B5.out.trans (hb.mono B5.out.size)); have X0 := Bx.mk (Y0.out.below hb); have X1 := Bx.mk (Y1.out.below hb); have X2 := Bx.mk (Y2.out.below hb); clear hb Y0 Y1 Y2 B5
  go_upto_region 5 with (fail)
  have nq : ∀ u : World, (binOp .neq 24 (.agg (ocells a)) (.agg (ocells a))).run Tryd.prog u = .ok (.bool false) u := fun u => (hv_ne u a a HA.out HA.out).trans (by simp)
  have eq : ∀ u : World, (binOp .eql 24 (.agg (ocells a)) (.agg (ocells b))).run Tryd.prog u = .ok (.bool (decide (k = 0))) u := fun u => (hv_eq u a b HA.out HB.out).trans (by
    congr 2
    rw [Bool.eq_iff_iff, beq_iff_eq, decide_eq_true_eq]
    exact HAB.out.symm)
  have l1 := CF.out.1
  have l2 := CF.out.2
  have hp := HPA.out
  rcases HK.out with h | h | h <;> subst h
  all_goals
    simp only [show decide ((-1 : Int) < 0) = true from rfl, show decide ((0 : Int) < -1) = false from rfl, show decide ((-1 : Int) = 0) = false from rfl, show decide ((0 : Int) < 0) = false from rfl, show decide ((1 : Int) < 0) = false from rfl, show decide ((0 : Int) < 1) = true from rfl, show decide ((1 : Int) = 0) = false from rfl] at l1 l2 eq
    go_upto_region 7 with (first
      | (guard_target =~ wpList _ _ _ (⟨some 29, _, _, _, _, _⟩ :: _) _ _; refine wpList_load_row rfl 24 (.tmp 7) rfl n2 rfl _ _ _ _ X2.out.1 underH rfl (hszL HA.out) ?_)
      | (guard_target =~ wpList _ _ _ (⟨some 30, _, _, _, _, _⟩ :: _) _ _; refine wpList_load_row rfl 24 (.tmp 3) rfl w.heap.size rfl _ _ _ _ X0.out.1 underH rfl (hszL HA.out) ?_)
      | (guard_target =~ wpList _ _ _ (⟨some 60, _, _, _, _, _⟩ :: _) _ _; refine wpList_load_row_w rfl 24 (.tmp 3) rfl w.heap.size rfl _ _ _ _ X0.out.1 underH rfl (hszL HA.out) ?_)
      | (guard_target =~ wpList _ _ _ (⟨some 61, _, _, _, _, _⟩ :: _) _ _; refine wpList_load_row_w rfl 24 (.tmp 4) rfl (w.heap.size + 1) rfl _ _ _ _ X1.out.1 underH rfl (hszL HB.out) ?_))
    clear nq eq l1 l2 hp
    go_wp2_with fail
    refine (read_any A w6 s hs (HH.out.below B6.out).err).mono ?_
    rintro e w7 ⟨⟨p, hp, ho⟩, hb⟩
    have B7 := Bx.mk (B6.out.trans (hb.mono B6.out.size)); clear hb
    cases p with
    | none =>
      have ho' : e = .returned (.tuple #[.agg (ocells (rdN (sb s) 64)), .nilIface]) := ho
      subst ho'
      have hL := rdN_length (sb s) 64
      have hx := hex_read (sb s) hp
      clear ho hp
      generalize rdN (sb s) 64 = L at hL hx
      have LL := Bx.mk hL; have HX := Bx.mk hx; clear hL hx
      go_upto_region 8 with (refine wpList_store_row rfl 24 (.tmp 12) (.tmp 76) rfl w7.heap.size (ocells L) rfl rfl _ zeros32 (heap_alloc_new _ _) (hszL LL.out) (hsoL LL.out) (ocells_one _) ?_; rw [setRow_alloc_new _ _ _ _ _ rfl])
      have x3 := HashAt.new w7 L LL.out
      have b3 := er_al (Below.refl w7.heap.size w7) (.cells (ocells L) 24)
      generalize w7.alloc (.cells (ocells L) 24) = w8 at x3 b3 ⊢
      generalize w7.heap.size = n3 at x3 ⊢
      have B8 := Bx.mk (B7.out.trans (b3.mono B7.out.size)); have X3 := Bx.mk x3; clear x3 b3
      go_wp2_with (refine wpList_load_row rfl 24 (.tmp 12) rfl n3 rfl _ _ _ _ X3.out.1 underH rfl (hszL LL.out) ?_)
      refine (show_any w8 L LL.out).mono ?_
      rintro e w9 ⟨rfl, hb⟩
      have B9 := Bx.mk (B8.out.trans (hb.mono B8.out.size)); clear hb
      have hq : (bstr (hexL L)).toList = s.toList := by
        rw [Lib.toList_data, Lib.toList_data]
        exact HX.out
      generalize bstr (hexL L) = sx at hq
      go_wp2_with fail
      refine (lives_any A w9 (HH.out.below B9.out)).mono ?_
      rintro e w10 ⟨rfl, hb⟩
      have B10 := Bx.mk (B9.out.trans (hb.mono B9.out.size)); clear hb hq
      go_wp2_with fail
      go_ret
      exact ⟨rfl, B10.out⟩
    | some q =>
      obtain ⟨v, rfl, hv⟩ := ho
      obtain ⟨hq1, hq2⟩ := readAns_le hp
      rw [sb_length] at hq2
      obtain ⟨ad, had⟩ : ∃ ad, v = .iface 65 (.pointer (some ad)) := by cases hv; exact ⟨_, rfl⟩
      subst had
      have hz := hszL zero32'_length; have hzo := hsoL zero32'_length; have hz1 := ocells_one zero32'
      have hzq : ∀ u : World, (binOp .eql 24 (.agg (ocells zero32')) (.agg #[.int .u8 0, .int .u8 0, .int .u8 0, .int .u8 0, .int .u8 0, .int .u8 0, .int .u8 0, .int .u8 0, .int .u8 0, .int .u8 0, .int .u8 0, .int .u8 0, .int .u8 0, .int .u8 0, .int .u8 0, .int .u8 0, .int .u8 0, .int .u8 0, .int .u8 0, .int .u8 0, .int .u8 0, .int .u8 0, .int .u8 0, .int .u8 0, .int .u8 0, .int .u8 0, .int .u8 0, .int .u8 0, .int .u8 0, .int .u8 0, .int .u8 0, .int .u8 0])).run Tryd.prog u = .ok (.bool true) u := fun u => (hv_eq u zero32' zero32' zero32'_length zero32'_length).trans (by simp)
      rw [hv_agg]
      generalize hzc : ocells zero32' = zc at hz hzo hz1 hzq
      have HZ := Bx.mk hz; have HZO := Bx.mk hzo; have HZ1 := Bx.mk hz1; have HV := Bx.mk hv; have HZQ := Bx.mk hzq
      clear hz hzo hz1 hzc hp hv hzq
      go_upto_region 8 with (refine wpList_store_row rfl 24 (.tmp 12) (.tmp 76) rfl w7.heap.size zc rfl rfl _ zeros32 (heap_alloc_new _ _) HZ.out HZO.out HZ1.out ?_; rw [setRow_alloc_new _ _ _ _ _ rfl])
      have x3 : (w7.alloc (.cells zc 24)).heap[w7.heap.size]? = some (.cells zc 24 (0, 0)) := heap_alloc_new _ _
      have b3 := er_al (Below.refl w7.heap.size w7) (.cells zc 24)
      generalize w7.alloc (.cells zc 24) = w8 at x3 b3 ⊢
      have hv := HV.out.below b3
      generalize w7.heap.size = n3 at x3 ⊢
      have B8 := Bx.mk (B7.out.trans (b3.mono B7.out.size)); have X3 := Bx.mk x3; have HV8 := Bx.mk hv; clear x3 b3 hv HV
      have h0 : (0 : Int) ≤ (q : Int) := by omega
      have h64 : (q : Int) ≤ 64 := by omega
      have hqs : (q : Int) ≤ (s.size : Int) := by omega
      have HQ := Bx.mk hqs; clear hq1 hq2 hqs
      go_wp2_with fail
      refine (at_any (HH.out.below B8.out).err HV8.out).mono ?_
      rintro e w9 ⟨rfl, hb⟩
      simp only [Option.getD_some, Option.isSome_some]
      have hv := HV8.out.below hb
      have x3 := (hb.block _ (Array.getElem?_eq_some_iff.1 X3.out).1).trans X3.out
      have B9 := Bx.mk (B8.out.trans (hb.mono B8.out.size)); have X4 := Bx.mk x3; have HV9 := Bx.mk hv; clear hb x3 hv HV8 X3
      go_wp2_with fail
      refine (code_any (HH.out.below B9.out).err HV9.out).mono ?_
      rintro e w10 ⟨rfl, hb⟩
      have x3 := (hb.block _ (Array.getElem?_eq_some_iff.1 X4.out).1).trans X4.out
      have B10 := Bx.mk (B9.out.trans (hb.mono B9.out.size)); have X5 := Bx.mk x3; clear hb x3 HV9 X4
      have hqs := HQ.out
      have hzq := HZQ.out
      go_wp2_with (guard_target =~ wpList _ _ _ (⟨some 106, _, _, _, _, _⟩ :: _) _ _; refine wpList_load_row_w rfl 24 (.tmp 12) rfl n3 rfl _ _ _ _ X5.out underH rfl HZ.out ?_)
      clear hqs hzq
      refine (lives_any A w10 (HH.out.below B10.out)).mono ?_
      rintro e w11 ⟨rfl, hb⟩
      have B11 := Bx.mk (B10.out.trans (hb.mono B10.out.size)); clear hb
      go_wp2_with fail
      go_ret
      exact ⟨rfl, B11.out⟩
end Go.Proofs.YtecdaokgnkhgiaaDoor
