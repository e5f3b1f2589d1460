/- onetime.Recover. -/
import Derived.Test.YtohifpomdanmkaaDoorOrf
import Derived.Test.YtohifpomdanmkaaDoorRetE
namespace Go.Proofs.YtohifpomdanmkaaDoor
set_option maxRecDepth 100000
open Go.RowKit
theorem quiet_load_mid {P : Program} {C : World → Prop} {o : Oper} {a : Act} {K : Act → Prop} (ty : TypeId) (x : Operand) (ho : o.op = .load ty x)
    (g q : Nat) (hx : a.eval x = .pointer (some ⟨g, q, none⟩)) (cs : List Value) (d : TypeDesc) (hg : ∀ w, C w → w.rangeAt g q cs)
    (hu : P.underlying ty = some d) (hd : d.isRow = true) (hi : (P.info? ty).map (·.size) = some cs.length)
    (h : K (a.put o.dst (.agg cs.toArray))) : o.quiet P a C K := by
  refine ⟨.agg cs.toArray, fun w hw => ?_, h⟩
  unfold Oper.quietAt execOp
  simp only [ho, hx, Instr.loadAt, Instr.sureAddr, Sem.run_bind, Sem.run_pure, Result.andThen_ok, run_loadVar_mid w g q ty cs d (hg w hw) hu hd hi, Oper.quietUpon]
  exact ⟨trivial, trivial⟩
/-- where a chain ends that is handed in -/
def goB (m : List UInt8) (hs : List (List UInt8)) (i : Nat) : List UInt8 := chainN (hs.getD i []) (15 - dall m i)
def recoverB (m : List UInt8) (hs : List (List UInt8)) : List UInt8 := sha (4 :: (rowOf (goB m hs) 67).flatten)
def argErr (A : Nat → Addr) : Value := .iface 121 (.pointer (some (A 1)))
def recV (A : Nat → Addr) (m : List UInt8) (hs : List (List UInt8)) : Value := if hs.length = 67 then .tuple #[hv (recoverB m hs), .nilIface] else .tuple #[hv zero32', argErr A]
theorem btr' {N : Nat} {w a b : World} (hN : N = w.heap.size) (h : Below N w a) (k : Below a.heap.size a b) : Below N w b := by subst hN; exact h.trans (k.mono h.size)
set_option maxHeartbeats 3200000 in
theorem recover_any (A : Nat → Addr) (w : World) (m : List UInt8) (hm : m.length = 32) (ad : Option Addr) (n cap : Nat) (hs : List (List UInt8)) (hH : Hss w (.slice ad n cap) hs) (hT : Hs A w) :
    Calls Tryd.prog 10 #[hv m, .slice ad n cap] w fun e w' => e = .returned (recV A m hs) ∧ Below w.heap.size w w' := by
  have x0 := (HashAt.new w m hm).below (er_al (Below.refl _ _) (.cells zeros32 23))
  have x1 : ((w.alloc (.cells (ocells m) 23)).alloc (.cells zeros32 23)).heap[w.heap.size + 1]? = some (.cells zeros32 23 (0, 0)) := by
    simpa using heap_alloc_new (w.alloc (.cells (ocells m) 23)) (.cells zeros32 23)
  have kb : Below w.heap.size w ((w.alloc (.cells (ocells m) 23)).alloc (.cells zeros32 23)) := er_al (er_al (Below.refl _ _) _) _
  obtain ⟨_, c', e1, hc1, hc2⟩ := hH.len
  have hcc : cap = c' := by cases e1; rfl
  subst hcc
  have hn : n = hs.length := by cases e1; rfl
  subst hn
  have ML := Bx.mk hm; have HT := Bx.mk hT; have HHS := Bx.mk hH
  clear hm hT hH e1
  unfold hv
  go_enter Tryd.func10, Tryd.ntmps10
  go_upto_region 1 with (fail)
  change Code.wp _ _ _ _ ((w.alloc (.cells (ocells m) 23)).alloc (.cells zeros32 23))
  generalize (w.alloc (.cells (ocells m) 23)).alloc (.cells zeros32 23) = W at x0 x1 kb ⊢
  obtain ⟨N, hN⟩ : ∃ N, N = w.heap.size := ⟨_, rfl⟩
  rw [← hN] at x0 x1 ⊢
  have X0 := Bx.mk x0; have X1 := Bx.mk x1; have KB := Bx.mk kb; have HN := Bx.mk hN
  clear x0 x1 kb hN
  have hgl : ∀ k, k < 16 → eg k < N := fun k hk => by have := block_lt_of_cell (HT.out.err.glob k hk); rw [HN.out]; exact this
  have HGL := Bx.mk hgl; clear hgl
  by_cases hlen : hs.length = 67
  · have hv : recV A m hs = .tuple #[.agg (ocells (recoverB m hs)), .nilIface] := by unfold recV; rw [if_pos hlen]; rfl
    have HV := Bx.mk hv
    have HLN := Bx.mk hlen
    rw [hlen] at HHS ⊢
    clear hv hlen hc1 hc2
    go_wp2_with (guard_target =~ wpList _ _ _ (⟨some 14, _, _, _, _, _⟩ :: _) _ _; refine wpList_load_row rfl 23 (.tmp 2) rfl N rfl _ _ _ _ X0.out.1 underH rfl (hszL ML.out) ?_)
    have cr := read_any W m ML.out
    rw [hv_agg] at cr
    refine cr.mono ?_
    clear cr
    rintro e w1 ⟨rfl, hb⟩
    have K1 := Bx.mk (KB.out.trans (hb.mono KB.out.size)); have Y1 := Bx.mk ((hb.block _ (Array.getElem?_eq_some_iff.1 X1.out).1).trans X1.out)
    clear hb
    go_upto_region 4 with (guard_target =~ wpList _ _ _ (⟨none, _, _, _, _, _⟩ :: _) _ _; refine wpList_store_row rfl 55 (.tmp 6) (.tmp 15) rfl w1.heap.size (dcells (dall m)) rfl rfl _ (dcells fun _ => 0) (heap_alloc_new _ _) (size55 _) (by rw [dcells_size, dcells_size]) (dcells_one _) ?_; rw [setRow_alloc_new _ _ _ _ _ rfl])
    have x5 := heap_alloc_new w1 (.cells (dcells (dall m)) 55)
    have b5 := er_al (Below.refl w1.heap.size w1) (.cells (dcells (dall m)) 55)
    generalize w1.alloc (.cells (dcells (dall m)) 55) = w2 at x5 b5 ⊢
    obtain ⟨n5, hn5⟩ : ∃ n, n = w1.heap.size := ⟨_, rfl⟩
    rw [← hn5] at x5 ⊢
    have K2 := Bx.mk (K1.out.trans (b5.mono K1.out.size)); have X5 := Bx.mk x5; have Z1 := Bx.mk ((b5.block _ (Array.getElem?_eq_some_iff.1 Y1.out).1).trans Y1.out)
    clear b5 x5 hn5
    have mk := make67 w2
    have sl := SlP.new w2
    have b2 := er_al (Below.refl w2.heap.size w2) (.cells (madeCells zeros32 2144) 23)
    go_upto_region 5 with (fail)
    clear mk
    generalize w2.alloc (.cells (madeCells zeros32 2144) 23) = W2 at sl b2 ⊢
    obtain ⟨g, hg⟩ : ∃ g, g = w2.heap.size := ⟨_, rfl⟩
    rw [← hg] at sl ⊢
    have S2 := Bx.mk sl; have B2 := Bx.mk b2; have HG := Bx.mk hg
    clear sl b2 hg
    go_wp2_with fail
    go_loopw [8, 19] (fun _ iv wr => ∃ t : Nat, t ≤ 67 ∧ iv = .int .i64 (t : Int) ∧ SlP wr g (rowOf (goB m hs) t) ∧ Below w2.heap.size w2 wr) (fun _ iv _ => 67 - (intOf iv).toNat)
    case atStart => exact ⟨0, by decide, rfl, S2.out, B2.out⟩
    case round =>
      obtain ⟨t, ht, rfl, hsl, hb⟩ := hrel
      have S3 := Bx.mk hsl; have B3 := Bx.mk hb
      have y5 := (hb.block _ (Array.getElem?_eq_some_iff.1 X5.out).1).trans X5.out
      have y1 := (hb.block _ (Array.getElem?_eq_some_iff.1 Z1.out).1).trans Z1.out
      have V1 := Bx.mk y1
      clear hsl hb S2 B2 y1
      have kw : ∀ u, Below w2.heap.size w2 u → Below w.heap.size w u := fun u h => K2.out.trans (h.mono K2.out.size)
      have KW := Bx.mk kw
      clear kw
      by_cases hlt : t < 67
      · have hts : t < hs.length := by have := HLN.out; omega
        obtain ⟨hnl, hc1', hc2', Ba, off, rfl, hBl, hr, hpl⟩ := (HHS.out.below (KW.out _ B3.out)).at t hts
        have hd := dall_lt m t
        have hge : goB m hs t = chainN hs[t] (15 - dall m t) := by unfold goB; rw [List.getD_eq_getElem?_getD, List.getElem?_eq_getElem hts]; rfl
        obtain ⟨px, hpx⟩ : ∃ px, px = hs[t] := ⟨_, rfl⟩
        rw [← hpx] at hr hpl hge
        have cn : ∀ u, Below wr.heap.size wr u → _ := fun u hu => on_any u px hpl (15 - dall m t) (by omega) ((HT.out.below (KW.out _ B3.out)).below hu).tab
        have hcl := chainN_length hpl (15 - dall m t)
        rw [← hge] at cn hcl
        simp only [hv_agg] at cn
        have hrow := rowOf_succ (goB m hs) t
        have hlen := rowOf_length (goB m hs) t
        have hdc := er_cellAt y5 t (.int .i64 (dall m t : Int)) (dcells_get _ _ hlt)
        have hn5 := (Array.getElem?_eq_some_iff.1 y5).1
        generalize goB m hs t = c at cn hcl hrow hge
        have e15 : ((15 - dall m t : Nat) : Int) = 15 - (dall m t : Int) := by omega
        rw [e15] at cn
        generalize dall m t = d at cn hd hdc e15 hge
        have hro : ∀ u, BlwC wr.heap.size wr u → u.rangeAt Ba (off + t * 32) (bcells px) := fun u ⟨u', hu⟩ => by
          subst hu; exact rangeAt_below hr hBl u'.h
        have hdu : ∀ u : Blw wr.heap.size wr, u.w.cell? ⟨n5, t, none⟩ = some (.int .i64 (d : Int)) := fun u => (u.h.cell (p := ⟨n5, t, none⟩) hn5).trans hdc
        have ne := Blw.ne wr.heap.size wr
        have CN := Bx.mk cn; have CL := Bx.mk hcl; have RW := Bx.mk hrow; have RL := Bx.mk hlen; have HRO := Bx.mk hro; have PX := Bx.mk hpl
        clear cn hcl hrow hlen hro y5 hdc hn5 hr hpl hBl hpx hnl e15 hge
        go_upto_region 8 with (fail)
        refine wp_region_quiet_tail (C := fun w' => ∃ u : Blw wr.heap.size wr, w' = u.w) 12 (by kernel_rfl) (by kernel_rfl) ⟨⟨_, (Below.refl _ _).drew⟩, rfl⟩ ?_
        simp only [List.take_succ_cons, List.take_zero, List.drop_succ_cons, List.drop_zero]
        go_big_quiet_step (fail)
        go_big_quiet_step (fail)
        go_big_quiet_step (fail)
        go_big_quiet_step (fail)
        go_big_quiet_step (fail)
        go_big_quiet_want
        refine quiet_load_mid 23 (.tmp 26) rfl Ba (off + t * 32) rfl (bcells px) _ HRO.out underH rfl (hszB' PX.out) ?_
        go_big_quiet_on
        simp only [Act.put, List.setIfInBounds_toArray, List.set_cons_succ, List.set_cons_zero]
        go_big_quiet_step (fail)
        go_big_quiet_step (fail)
        go_big_quiet_step (fail)
        go_big_quiet_step (fail)
        go_big_quiet_step (exact Calls.blw (Nat.le_refl _) CN.out)
        go_big_quiet_step (fail)
        refine wpQuiet_nil ?_
        rintro _ ⟨u, rfl⟩
        have s5 := S3.out.below u.h
        have b5 := B3.out.trans (u.h.mono B3.out.size)
        have hroom := s5.room (c := c) (by rw [RL.out]; exact hlt) CL.out
        have hpush := s5.push (c := c) (by rw [RL.out]; exact hlt) CL.out
        have hbs := below_setCells (Nat.le_of_eq HG.out.symm) (ocells c).toList (t * 32) u.w b5
        rw [RL.out] at hroom hpush
        rw [← RW.out] at hpush
        have RM := Bx.mk hroom; have PS := Bx.mk hpush; have BS := Bx.mk hbs
        clear hroom hpush hbs s5 b5 hdu ne
        go_wp2_with (guard_target =~ wpList _ _ _ (⟨none, _, _, _, _, _⟩ :: _) _ _; refine wpList_store_mid rfl 23 (.tmp 33) (.tmp 32) rfl g (t * 32) (ocells c) rfl rfl RM.out (hszL CL.out) (ocells_one _) ?_)
        go_roundw
        case rel => exact ⟨t + 1, hlt, by go_num, PS.out, BS.out⟩
        case measure => simp [intOf]; omega
      · obtain rfl : t = 67 := by omega
        have ce := end_any wr (some ⟨g, 0, none⟩) 67 67 _ (S3.out.hss (rowOf_length _ _)) (by rw [rowOf_length]; decide) (HT.out.below (KW.out _ B3.out)).tab
        rw [hv_agg] at ce
        have CE := Bx.mk ce
        have hpl : (recoverB m hs).length = 32 := sha_length _
        have PL := Bx.mk hpl
        clear ce hlt ht hpl y5
        go_wp2_with fail
        refine CE.out.mono ?_
        rintro e w5 ⟨rfl, hb⟩
        have hb5 := B3.out.trans (hb.mono B3.out.size)
        have z1 := (hb.block _ (Array.getElem?_eq_some_iff.1 V1.out).1).trans V1.out
        have U1 := Bx.mk z1; have KZ := Bx.mk (KW.out _ hb5)
        clear hb hb5 z1
        go_wp2_with (guard_target =~ wpList _ _ _ (⟨none, _, _, _, _, _⟩ :: _) _ _; refine wpList_store_row rfl 23 (.tmp 4) (.tmp 36) rfl (N + 1) (ocells (recoverB m hs)) rfl rfl _ _ U1.out (hszL PL.out) (hsoL PL.out) (ocells_one _) ?_)
        exact bodyPost_ret (results_row_tmp rfl _ _ (N + 1) _ (ocells (recoverB m hs)) _ rfl (setRow_heap _ _ _ _ _ _ U1.out) (hszL PL.out)) rfl ⟨by rw [HV.out]; rfl, below_setRow KZ.out (by have := HN.out; omega) _⟩
  · have hv : recV A m hs = .tuple #[hv zero32', argErr A] := by unfold recV; rw [if_neg hlen]
    have HV := Bx.mk hv
    have l1 : ¬ (hs.length : Int) = 67 := by omega
    have l2 : ((hs.length : Int) == 67) = false := by simpa using l1
    clear hv
    generalize hs.length = l at l1 l2 ⊢
    go_upto_region 2 with (fail)
    refine ret_zero (A := A) ((HT.out.below KB.out).err) (n := N + 1) X1.out 1 (by decide) (by rw [show eg 1 = 0 from rfl]; have := HGL.out 1 (by decide); omega) (by kernel_rfl) rfl rfl rfl rfl (by decide) rfl _ rfl (fun _ => rfl) _ _ rfl rfl rfl rfl rfl rfl ?_
    intro W' hW'
    have Z1 := Bx.mk ((hW'.block _ (Array.getElem?_eq_some_iff.1 X1.out).1).trans X1.out)
    have Z2 := Bx.mk (KB.out.trans (hW'.mono KB.out.size))
    clear hW'
    go_simp
    go_wp2_with fail
    exact bodyPost_ret (results_row_tmp rfl _ _ (N + 1) _ zeros32 _ rfl Z1.out (hszL zero32'_length)) rfl ⟨by rw [HV.out]; rfl, Z2.out⟩
end Go.Proofs.YtohifpomdanmkaaDoor
