/- cartularylaw18.grown, where the proof holds. -/
import Derived.Test.YtmlpldkgennmkaaDoorBnd
import Derived.Test.YtmlpldkgennmkaaDoorVz
namespace Go.Proofs.YtmlpldkgennmkaaDoor
set_option maxRecDepth 100000
open Go.RowKit
theorem results_trt {fn : Func} {p q r : Tmp} (h : fn.results = #[.tmp p, .cell q 24, .tmp r]) (tmps : Array Value) (w : World) (g : Nat) (t : TypeId) (cs : Array Value) (fr : Nat × Nat)
    (hq : tmps.getD q undef = .pointer (some ⟨g, 0, none⟩)) (hg : w.heap[g]? = some (.cells cs t fr)) (hi : (Tryd.prog.info? 24).map (·.size) = some cs.size) :
    (results fn tmps).run Tryd.prog w = .ok (.tuple #[tmps.getD p undef, .agg cs, tmps.getD r undef]) w := by
  have hl := run_loadVar_row (P := Tryd.prog) w g t 24 cs fr _ hg underH rfl hi
  have hq' : tmps[q]?.getD undef = .pointer (some ⟨g, 0, none⟩) := by simpa using hq
  simp [results, h, hq', asAddr, hl, Result.andThen]
def VGr29 (adx a12 : Option Addr) (L capx c12 n3 _n11 b0 : Nat) (fh : List UInt8) (cl : List (List UInt8 × List UInt8)) (oi : Nat) (v : Value) (own : Nat → Option Nat) (w : World) : Prop :=
  match oi with
  | 0 => v = .agg (ocells (fh))
  | 1 => v = .slice adx L capx
  | 2 => v = .slice a12 L c12
  | 3 => GrownV own w 3 b0 55 64 v L (pcs cl)
  | 4 => v = .agg (ocells (fh))
  | 5 => GrownV own w 3 b0 55 64 v L (pcs cl)
  | 6 => OutV own w (n3) 6 24 (ocells fh)
  | 7 => v = .bool true
  | _ => True
def VGr29mk : Nat → Option Nat := fun _ => none
theorem VGr29_mono (adx a12 : Option Addr) (L capx c12 n3 n11 b0 : Nat) (fh : List UInt8) (cl : List (List UInt8 × List UInt8)) (oi oj : Nat) (v : Value) (own : Nat → Option Nat) (w : World) (own' : Nat → Option Nat) (w' : World) (hij : oi ≠ oj) (hx0 : oi = 3 → oj = 5 → False) (h : VGr29 adx a12 L capx c12 n3 n11 b0 fh cl oj v own w) (r : Rel VGr29mk oi own w own' w') : VGr29 adx a12 L capx c12 n3 n11 b0 fh cl oj v own' w' := by
  unfold VGr29 at h ⊢
  split at h
  · exact h
  · exact h
  · exact h
  · exact h.stable r hij
  · exact h
  · exact h.stable r (fun e => hx0 e rfl)
  · exact h.stable r hij
  · exact h
  · trivial

set_option maxHeartbeats 6400000 in
theorem grown_any (w : World) (o s : Nat) (h0 : 0 < o) (ho : o < s) (hs : s ≤ 9223372036854775808) (before after : List UInt8) (hb : before.length = 32) (ha : after.length = 32) (ad : Option Addr) (n cap : Nat) (ps : List (List UInt8)) (hH : Hss w (.slice ad n cap) ps) (fh : List UInt8) (rr : List (List UInt8)) (hc : conS before (hsdirs o s) ps = some (fh, rr)) (hr : rr.length = (hsdirs o s).length) (hT : TabS w) :
    Calls Tryd.prog 24 #[.agg (pcells o s before after (.slice ad n cap))] w fun e w' => ∃ v, e = .returned (.tuple #[v, hv fh, .bool true]) ∧ w'.ownsRow w.heap.size 55 64 v (hsdirs o s).length (pcs (climbsP nd fh (hsdirs o s) rr)) ∧ Below w.heap.size w w' := by
  have pa := (PrfAt.new w o s (.slice ad n cap) hb ha).below (er_al (Below.refl _ _) (.cells zeros32 24))
  have x3 := heap_alloc_new (w.alloc (.cells (pcells o s before after (.slice ad n cap)) 45)) (.cells zeros32 24)
  rw [show (w.alloc (.cells (pcells o s before after (.slice ad n cap)) 45)).heap.size = w.heap.size + 1 by simp] at x3
  have kb := er_al (er_al (Below.refl w.heap.size w) (.cells (pcells o s before after (.slice ad n cap)) 45)) (.cells zeros32 24)
  have hn : n = ps.length := by obtain ⟨_, _, e1, _⟩ := hH.len; cases e1; rfl
  have hdl := hsdirs_len 63 o s hs
  have hfl : fh.length = 32 := by
    unfold conS at hc
    split at hc
    · cases hc; exact hb
    · split at hc
      · cases hc
      · cases hc; exact hH.1 _ List.mem_cons_self
  obtain ⟨i0, hi0, hz0, hz1, hz2⟩ := info_parts infoBo
  have RI := Bx.mk (And.intro hi0 (And.intro hz0 (And.intro hz1 hz2)))
  obtain ⟨D, hD⟩ : ∃ D, D = hsdirs o s := ⟨_, rfl⟩
  rw [← hD] at hdl hc hr ⊢
  have DL := Bx.mk hdl; have HD := Bx.mk hD; have HCS := Bx.mk hc; have HRL := Bx.mk hr; have HT := Bx.mk hT; have HHS := Bx.mk hH; have FL := Bx.mk hfl; have BL := Bx.mk hb; have AL := Bx.mk ha; have HN := Bx.mk hn
  clear hi0 hz0 hz1 hz2 hdl hD hc hr hT hH hfl hb ha hn
  generalize hpc : pcells o s before after (.slice ad n cap) = pc at pa x3 kb ⊢
  clear hpc
  go_enter Tryd.func24, Tryd.ntmps24
  go_upto_region 1 with (fail)
  change Code.wp _ _ _ _ ((w.alloc (.cells pc 45)).alloc (.cells zeros32 24))
  generalize (w.alloc (.cells pc 45)).alloc (.cells zeros32 24) = W at pa x3 kb ⊢
  obtain ⟨n3, hn3⟩ : ∃ n3, n3 = w.heap.size + 1 := ⟨_, rfl⟩
  rw [← hn3] at x3 ⊢
  obtain ⟨N, hN⟩ : ∃ N, N = w.heap.size := ⟨_, rfl⟩
  rw [← hN] at pa ⊢
  have PA0 := Bx.mk pa; have X30 := Bx.mk x3; have K0 := Bx.mk kb
  have N3W := Bx.mk (show n3 < W.heap.size ∧ w.heap.size ≤ n3 from ⟨(Array.getElem?_eq_some_iff.1 x3).1, by omega⟩)
  have c0 := pa.cell0; have c1 := pa.cell1
  clear pa x3 kb hn3 hN
  go_wp2_with fail
  clear c0 c1
  go_loopw [5, 6, 7, 8, 9] (fun a b dv wv _ wr => ∃ (p q : Nat) (l : List Bool), 0 < p ∧ p ≤ q ∧ q ≤ 9223372036854775808 ∧ a = .int .u64 (p : Int) ∧ b = .int .u64 (q : Int) ∧ wv = .bool (l.all (!·)) ∧ hsdirs p q ++ l.reverse = D ∧ wr.ownsRow W.heap.size 4 1 dv l.length (lcells l) ∧ Below W.heap.size W wr) (fun _ b _ _ _ _ => (intOf b).toNat)
  case atStart => exact ⟨o, s, [], h0, Nat.le_of_lt ho, hs, rfl, rfl, rfl, by rw [HD.out]; simp, ⟨rfl, .inl ⟨rfl, rfl⟩⟩, Below.refl _ _⟩
  case round =>
    rename World => wo
    obtain ⟨p, q, l, hp0, hpq, hq, rfl, rfl, rfl, hl, hrow, hb⟩ := hrel
    obtain ⟨a5, c5, rfl, q1, q2, q3⟩ := own_shape hrow
    have HO := Bx.mk hrow; have HB := Bx.mk hb; have HL := Bx.mk hl
    have hll : l.length ≤ 63 := by have h1 := DL.out; rw [← hl, List.length_append, List.length_reverse] at h1; omega
    have LL := Bx.mk hll
    clear hrow hb hl q1 q2 q3 hll
    by_cases hlt : p < q
    · have h2 : 2 ≤ q := by omega
      obtain ⟨g1, g2, g3⟩ := half_pos h2
      have h1 := Bx.mk (hsdirs_le (o := p) (s := q) h2 hlt)
      have h3 := Bx.mk (hsdirs_gt (o := p) (s := q) h2 hlt)
      have hlt' : (p : Int) < (q : Int) := by omega
      go_wp2_with fail
      go_loopw [9] (fun k wq => wq = wo ∧ ∃ K : Nat, 1 ≤ K ∧ K < q ∧ k = .int .u64 (K : Int) ∧ ∃ m, K = 2 ^ m) (fun k _ => q - (intOf k).toNat)
      case atStart => exact ⟨rfl, 1, Nat.le_refl _, by omega, rfl, 0, rfl⟩
      case round =>
        obtain ⟨rfl, K, hK1, hK, rfl, hm⟩ := hrel
        have HM := Bx.mk hm; clear hm
        have d1 : IntKind.u64.wrap ((q : Int) - (K : Int)) = (q : Int) - (K : Int) := by simp [IntKind.wrap, IntKind.bits, IntKind.signed]; omega
        by_cases hcc : K + K < q
        · have d2 : IntKind.u64.wrap ((K : Int) * 2) = (K : Int) * 2 := by simp [IntKind.wrap, IntKind.bits, IntKind.signed]; omega
          have hc' : (K : Int) < (q : Int) - (K : Int) := by omega
          go_wp2_with fail
          clear d1 d2
          go_roundw
          case rel =>
            obtain ⟨m, hm⟩ := HM.out
            exact ⟨trivial, K * 2, by omega, by omega, by go_num, m + 1, by rw [hm, Nat.pow_succ]⟩
          case measure => simp [intOf]; omega
        · have hc' : ¬ (K : Int) < (q : Int) - (K : Int) := by omega
          have hh : half q = K := by
            obtain ⟨m, hm⟩ := HM.out
            subst hm
            exact half_of ⟨hK, by rw [Nat.pow_succ]; omega⟩
          rw [hh] at g1 g2 g3 h1 h3
          clear HM hh
          by_cases hle : p ≤ K
          · have hx : (p : Int) ≤ (K : Int) := by omega
            go_upto_region 10 with (guard_target =~ wpList _ _ _ (⟨some 33, _, _, _, _, _⟩ :: _) _ _; refine wpList_append_src rfl (.tmp 28) (.tmp 32) 49 rfl W.heap.size 4 i0 (.bool false) 1 1 underBo RI.out.1 RI.out.2.1 RI.out.2.2.1 RI.out.2.2.2 rfl (by decide) (.slice a5 l.length c5) l.length (lcells l) rfl (row_push HO.out _) (some ⟨wr.heap.size, 0, none⟩) 1 1 [.bool (decide (K < p))] rfl (fun h => by cases h) rfl (bo_src wr _ _ rfl) (by simp [Value.oneCell']) (by have := LL.out; unfold maxLen; omega) (by have := LL.out; omega) (by have := HB.out.size; simp; omega) ?_; intro v1 w1 hown' hgrow _; have O1 := Bx.mk hown'; have G1 := Bx.mk hgrow; clear hown' hgrow)
            have b1 : Below W.heap.size W w1 := (HB.out.alloc HB.out.size _).grown G1.out (Nat.le_trans HB.out.size (by simp)) (fun k hk => ownsRow_fresh HO.out k hk)
            have o1 := O1.out
            rw [lcells_push] at o1
            have B1 := Bx.mk b1; have P1 := Bx.mk o1
            clear b1 o1 O1 G1
            go_wp2_with fail
            go_roundw
            case rel => exact ⟨p, K, l ++ [decide (K < p)], by omega, by omega, by omega, by go_num, by go_num, by rw [List.all_append, decide_eq_false (by omega)]; simp, by rw [← HL.out, h1.out (by omega), decide_eq_false (by omega)]; simp, by rw [List.length_append, List.length_singleton]; exact P1.out, B1.out⟩
            case measure => simp [intOf]; omega
          · have hx : ¬ (p : Int) ≤ (K : Int) := by omega
            have d2 : IntKind.u64.wrap ((p : Int) - (K : Int)) = (p : Int) - (K : Int) := by simp [IntKind.wrap, IntKind.bits, IntKind.signed]; omega
            go_upto_region 10 with (guard_target =~ wpList _ _ _ (⟨some 33, _, _, _, _, _⟩ :: _) _ _; refine wpList_append_src rfl (.tmp 28) (.tmp 32) 49 rfl W.heap.size 4 i0 (.bool false) 1 1 underBo RI.out.1 RI.out.2.1 RI.out.2.2.1 RI.out.2.2.2 rfl (by decide) (.slice a5 l.length c5) l.length (lcells l) rfl (row_push HO.out _) (some ⟨wr.heap.size, 0, none⟩) 1 1 [.bool (decide (K < p))] rfl (fun h => by cases h) rfl (bo_src wr _ _ rfl) (by simp [Value.oneCell']) (by have := LL.out; unfold maxLen; omega) (by have := LL.out; omega) (by have := HB.out.size; simp; omega) ?_; intro v1 w1 hown' hgrow _; have O1 := Bx.mk hown'; have G1 := Bx.mk hgrow; clear hown' hgrow)
            have b1 : Below W.heap.size W w1 := (HB.out.alloc HB.out.size _).grown G1.out (Nat.le_trans HB.out.size (by simp)) (fun k hk => ownsRow_fresh HO.out k hk)
            have o1 := O1.out
            rw [lcells_push] at o1
            have B1 := Bx.mk b1; have P1 := Bx.mk o1
            clear b1 o1 O1 G1
            go_wp2_with fail
            clear d1 d2
            go_roundw
            case rel => exact ⟨p - K, q - K, l ++ [decide (K < p)], by omega, by omega, by omega, by go_num, by go_num, by rw [List.all_append, decide_eq_true (by omega)]; simp, by rw [← HL.out, h3.out (by omega), decide_eq_true (by omega)]; simp, by rw [List.length_append, List.length_singleton]; exact P1.out, B1.out⟩
            case measure => simp [intOf]; omega
    · obtain rfl : p = q := by omega
      have hlt' : ¬ (p : Int) < (p : Int) := by omega
      have hDl : D = l.reverse := by rw [← HL.out, hsdirs_same (Nat.le_refl _)]; rfl
      have hall : l.all (!·) = D.all (!·) := by rw [hDl, List.all_reverse]
      obtain ⟨L, hLL⟩ : ∃ L, L = l.length := ⟨_, rfl⟩
      have HLL := Bx.mk hLL; have HDD := Bx.mk hDl
      have hdl : D.length = L := by rw [hDl, List.length_reverse, hLL]
      have HDL := Bx.mk hdl
      rw [← hLL] at HO LL ⊢
      clear hLL hDl hdl hlt
      have pa := PA0.out.below HB.out
      have cL := pa.cellL
      have hlf := pa.leafAt
      have PAX := Bx.mk pa
      generalize l.all (!·) = wl at hall ⊢
      have HAL := Bx.mk hall
      clear hall pa
      go_upto_region 17 with (first
        | (guard_target =~ wpList _ _ _ (⟨some 47, _, _, _, _, _⟩ :: _) _ _; refine wpList_load_mid rfl 24 (.tmp 46) rfl N 2 rfl (bcells before) _ PAX.out.leafAt underH rfl (hszB' BL.out) ?_)
        | (guard_target =~ wpList _ _ _ (⟨none, _, _, _, _, _⟩ :: _) _ _; refine wpList_store_row rfl 24 (.tmp 11) (.tmp 47) rfl wo.heap.size (ocells before) rfl rfl _ zeros32 (heap_alloc_new _ _) (hszL BL.out) (hsoL BL.out) (ocells_one _) ?_; rw [setRow_alloc_new _ _ _ _ _ rfl]))
      have x11 := heap_alloc_new wo (.cells (ocells before) 24)
      have b11 := er_al (Below.refl wo.heap.size wo) (.cells (ocells before) 24)
      have hor := row_push HO.out (.cells (ocells before) 24)
      generalize wo.alloc (.cells (ocells before) 24) = w1 at x11 b11 hor ⊢
      obtain ⟨n11, hn11⟩ : ∃ n, n = wo.heap.size := ⟨_, rfl⟩
      rw [← hn11] at x11 ⊢
      have bw := HB.out.trans (b11.mono HB.out.size)
      have N311 := Bx.mk (show n3 ≠ n11 by have := N3W.out; have := HB.out.size; omega)
      have NW11 := Bx.mk (show W.heap.size ≤ n11 by have := HB.out.size; omega)
      have OFR := Bx.mk (show ∀ k, (Value.slice a5 L c5).ownBlock = some k → k < n11 from fun k hk => by have := ownsRow_lt HO.out k hk; omega)
      have KW := Bx.mk (K0.out.trans (bw.mono K0.out.size))
      have X3 := Bx.mk ((bw.block n3 N3W.out.1).trans X30.out)
      have X11 := Bx.mk x11
      clear x11 b11 hn11 bw cL hlf HO
      have HO := Bx.mk hor
      clear hor
      have hc := HCS.out
      unfold conS at hc
      by_cases hw : D.all (!·) = true
      · rw [if_pos hw] at hc
        obtain ⟨rfl, rfl⟩ : fh = before ∧ rr = ps := by cases hc; exact ⟨rfl, rfl⟩
        have hwl : wl = true := HAL.out.trans hw
        subst hwl
        obtain rfl : L = n := by rw [HN.out, HRL.out, HDL.out]
        have HR := HHS
        have HRR := Bx.mk (show rr.length = L by rw [HRL.out, HDL.out])
        clear hc hw HAL
        go_upto_region 25 with (fail)
        have d3 : IntKind.i64.wrap ((L : Int) - 1) = (L : Int) - 1 := by have := LL.out; simp [IntKind.wrap, IntKind.bits, IntKind.signed]; omega
        go_wp2_with fail
        clear d3
        obtain ⟨wp, hwp⟩ : ∃ x, x = w1 := ⟨_, rfl⟩
        rw [← hwp] at KW X11 X3 HO ⊢
        clear hwp
        go_loopw [12, 13] (fun uv iv wq => ∃ (t : Nat) (z : Int), t ≤ L ∧ z = (L : Int) - 1 - t ∧ iv = .int .i64 z ∧ wq.ownsRow wp.heap.size 4 1 uv t (lcells (l.reverse.take t)) ∧ Below wp.heap.size wp wq) (fun _ iv _ => (intOf iv + 1).toNat)
        case atStart => exact ⟨0, (L : Int) - 1, Nat.zero_le _, by omega, by go_num, ⟨rfl, .inl ⟨rfl, rfl⟩⟩, Below.refl _ _⟩
        case round =>
          obtain ⟨t, z, ht, hz, rfl, hu, hv⟩ := hrel
          obtain ⟨a7, c7, rfl, q1, q2, q3⟩ := own_shape hu
          have HU := Bx.mk hu; have HV := Bx.mk hv
          clear hu q1 q2 q3
          by_cases hlt : t < L
          · obtain ⟨j, hj⟩ : ∃ j : Nat, z = (j : Int) := ⟨L - 1 - t, by omega⟩
            subst hj
            have hjL : j = L - 1 - t := by omega
            have hjl : j < l.length := by rw [← HLL.out]; omega
            obtain ⟨g, c, e, hgc, hgl, hcell⟩ := bools_at (own_keep HO.out (Keep.of_below hv (fun _ => False)) (fun _ _ h => h)) j hjl
            cases e
            have hsn : l.reverse.take (t + 1) = l.reverse.take t ++ [l[j]] := by
              rw [List.take_succ_eq_append_getElem (by rw [List.length_reverse, ← HLL.out]; exact hlt), List.getElem_reverse]
              congr 3
              rw [← HLL.out]; exact hjL.symm
            obtain ⟨x, hx⟩ : ∃ x, x = l[j] := ⟨_, rfl⟩
            rw [← hx] at hcell hsn
            have HS := Bx.mk hsn; have LT := Bx.mk (show t + 1 ≤ 64 by have := LL.out; omega)
            have HJL := Bx.mk hjL; have hjlt : j < L := by omega
            clear hsn hx hv hgc hgl hjl hjL hz
            go_upto_region 27 with (guard_target =~ wpList _ _ _ (⟨some 78, _, _, _, _, _⟩ :: _) _ _; refine wpList_append_src rfl (.tmp 72) (.tmp 77) 49 rfl wp.heap.size 4 i0 (.bool false) 1 1 underBo RI.out.1 RI.out.2.1 RI.out.2.2.1 RI.out.2.2.2 rfl (by decide) (.slice a7 t c7) t (lcells (l.reverse.take t)) rfl (row_push HU.out _) (some ⟨wr.heap.size, 0, none⟩) 1 1 [.bool x] rfl (fun h => by cases h) rfl (bo_src wr _ _ rfl) (by simp [Value.oneCell']) (by have := LT.out; unfold maxLen; omega) (by have := LT.out; omega) (by have := HV.out.size; simp; omega) ?_; intro v1 wy hown' hgrow _; have O1 := Bx.mk hown'; have G1 := Bx.mk hgrow; clear hown' hgrow)
            have b1 : Below wp.heap.size wp wy := (HV.out.alloc HV.out.size _).grown G1.out (Nat.le_trans HV.out.size (by simp)) (fun k hk => ownsRow_fresh HU.out k hk)
            have o1 := O1.out
            rw [lcells_push, ← HS.out] at o1
            have B1 := Bx.mk b1; have P1 := Bx.mk o1
            have d4 : IntKind.i64.wrap ((j : Int) - 1) = (j : Int) - 1 := by have := LL.out; simp [IntKind.wrap, IntKind.bits, IntKind.signed]; omega
            clear b1 o1 O1 G1 hcell
            go_wp2_with fail
            clear d4
            go_roundw
            case rel => exact ⟨t + 1, (j : Int) - 1, hlt, by have := HJL.out; omega, by go_num, P1.out, B1.out⟩
            case measure => (simp [intOf]) <;> omega
          · obtain rfl : L = t := by omega
            have htk : l.reverse.take L = D := by rw [HDD.out]; exact List.take_of_length_le (by rw [List.length_reverse, ← HLL.out]; exact Nat.le_refl _)
            rw [htk] at HU
            have hdl : D.length = L := by rw [HDD.out, List.length_reverse, HLL.out]
            have KX := Bx.mk (KW.out.trans (HV.out.mono KW.out.size))
            have Y11 := Bx.mk ((HV.out.block _ (Array.getElem?_eq_some_iff.1 X11.out).1).trans X11.out)
            have Y3 := Bx.mk ((HV.out.block _ (Array.getElem?_eq_some_iff.1 X3.out).1).trans X3.out)
            have HB0 := Bx.mk (Nat.le_trans KW.out.size HV.out.size)
            have hcc := fun (u : World) (hk : Keep (fun k => k = n3 ∨ k = n3) wr u) => climbs_any u fh FL.out ad L cap rr
              (HR.out.below (KX.out.trans (hk.below KX.out.size (fun k hk => by have := N3W.out; omega)))) (.slice a7 L c7) D wp.heap.size (by rw [hdl]; exact own_keep HU.out hk (fun k hk e => by have := ownsRow_fresh HU.out k hk; have := (Array.getElem?_eq_some_iff.1 X3.out).1; omega)) (by rw [hdl]; exact HRR.out.symm) (by have := LL.out; rw [HRR.out]; omega) (HT.out.below (KX.out.trans (hk.below KX.out.size (fun k hk => by have := N3W.out; omega))))
            simp only [hv_agg, hdl] at hcc
            have CC := Bx.mk hcc
            have DLN := Bx.mk hdl
            clear hcc hdl htk hv ht hlt X11 X3 HO
            have X11 := Y11; have X3 := Y3
            generalize hclg : climbsP nd fh D rr = cl at CC
            obtain ⟨b0, hb0⟩ : ∃ b, b = w.heap.size := ⟨_, rfl⟩
            rw [← hb0] at HB0
            have HBE := Bx.mk hb0; have HCG := Bx.mk hclg
            clear hb0 hclg
            go_upto_region 29 with (fail)
            refine wp_region_own4 (n := 84) VGr29mk (ownTwo n3 n3 6 6) (VGr29 ad a7 L cap c7 n3 n11 b0 fh cl) (by kernel_rfl) (by kernel_rfl) rfl (fun k hk => ownTwo_none (by have := (Array.getElem?_eq_some_iff.1 X3.out).1; omega) (by have := (Array.getElem?_eq_some_iff.1 X3.out).1; omega)) (fun j i hj _ => by cases hj) ?_ ?_ ?_
            · exact fun oi oj v own w own' w' hij hnd h r => VGr29_mono ad a7 L cap c7 n3 n11 b0 fh cl oi oj v own w own' w' hij (by rintro rfl rfl; exact Bool.noConfusion (hnd.symm.trans (show depB _ 5 3 = true by kernel_rfl))) h r
            · intro oi o hi f u own hsame hsn hfr hlate hkeep hdep
              have hk6 := hsn.keepTwo
              match oi, hi with
              | 0, hi =>
                cases (show some _ = some o from hi)
                have e11 : f.tmps.getD 11 undef = .pointer (some ⟨n11, 0, none⟩) := hsame.slot 11 (fun i o h => invB2_not 11 (by kernel_rfl) h)
                clear hdep hsame hi hlate hfr hkeep
                exact .inl ⟨wanted_none rfl, showsO_row hsn rfl 24 (.tmp 11) rfl n11 e11 (ocells fh) ((hk6.block n11 (Array.getElem?_eq_some_iff.1 X11.out).1 (by have := N311.out; omega)).trans X11.out) underH rfl (hszL FL.out) rfl⟩
              | 1, hi =>
                cases (show some _ = some o from hi)
                have e10 : f.tmps.getD 10 undef = .slice ad L cap := hsame.slot 10 (fun i o h => invB2_not 10 (by kernel_rfl) h)
                clear hdep hsame hi hlate hfr hkeep
                exact .inl ⟨wanted_none rfl, showsO_move hsn rfl _ rfl e10⟩
              | 2, hi =>
                cases (show some _ = some o from hi)
                have e12 : f.tmps.getD 12 undef = .slice a7 L c7 := hsame.slot 12 (fun i o h => invB2_not 12 (by kernel_rfl) h)
                clear hdep hsame hi hlate hfr hkeep
                exact .inl ⟨wanted_none rfl, showsO_move hsn rfl _ rfl e12⟩
              | 3, hi =>
                cases (show some _ = some o from hi)
                have e79 : (f.tmps.getD 79 undef) = .agg (ocells (fh)) := depO (V := (VGr29 ad a7 L cap c7 n3 n11 b0 fh cl)) hdep 0 79 (by kernel_rfl) (by kernel_rfl)
                have e80 : (f.tmps.getD 80 undef) = .slice ad L cap := depO (V := (VGr29 ad a7 L cap c7 n3 n11 b0 fh cl)) hdep 1 80 (by kernel_rfl) (by kernel_rfl)
                have e81 : (f.tmps.getD 81 undef) = .slice a7 L c7 := depO (V := (VGr29 ad a7 L cap c7 n3 n11 b0 fh cl)) hdep 2 81 (by kernel_rfl) (by kernel_rfl)
                clear hdep hsame hi hlate hfr hkeep
                have c := CC.out u hk6
                exact .inl ⟨wanted_none rfl, showsO_call (R := fun v w' => w'.ownsRow u.heap.size 55 64 v L (pcs cl)) hsn rfl 20 #[.agg (ocells (fh)), .slice ad L cap, .slice a7 L c7] (by simp only [execOp, Act.eval]; go_simp) (c.mono fun e w' ⟨v, h1, h2, h3⟩ => ⟨v, h1, h2, h3⟩) (fun v w' h _ => ⟨ownsRow_mono h (Nat.le_trans HB0.out hsn.size), fun k hk => .inr (hsn.top k (ownsRow_fresh h k hk))⟩)⟩
              | 4, hi =>
                cases (show some _ = some o from hi)
                have e11 : f.tmps.getD 11 undef = .pointer (some ⟨n11, 0, none⟩) := hsame.slot 11 (fun i o h => invB2_not 11 (by kernel_rfl) h)
                clear hdep hsame hi hlate hfr hkeep
                exact .inl ⟨wanted_none rfl, showsO_row hsn rfl 24 (.tmp 11) rfl n11 e11 (ocells fh) ((hk6.block n11 (Array.getElem?_eq_some_iff.1 X11.out).1 (by have := N311.out; omega)).trans X11.out) underH rfl (hszL FL.out) rfl⟩
              | 5, hi =>
                cases (show some _ = some o from hi)
                have e82 : GrownV own u 3 b0 55 64 (f.tmps.getD 82 undef) L (pcs cl) := depO (V := (VGr29 ad a7 L cap c7 n3 n11 b0 fh cl)) hdep 3 82 (by kernel_rfl) (by kernel_rfl)
                clear hdep hsame hi hlate hfr hkeep
                exact .inl ⟨wanted_none rfl, showsO_assign hsn rfl _ rfl e82⟩
              | 6, hi =>
                cases (show some _ = some o from hi)
                have e3 : f.tmps.getD 3 undef = .pointer (some ⟨n3, 0, none⟩) := hsame.slot 3 (fun i o h => invB2_not 3 (by kernel_rfl) h)
                have e83 : (f.tmps.getD 83 undef) = .agg (ocells (fh)) := depO (V := (VGr29 ad a7 L cap c7 n3 n11 b0 fh cl)) hdep 4 83 (by kernel_rfl) (by kernel_rfl)
                clear hdep hsame hi hlate hfr hkeep
                exact .inl ⟨wanted_none rfl, showsO_store_out hsn rfl 24 (.tmp 3) (.tmp 83) rfl (n3) e3 X3.out (ownTwo_one _ _ _ _) (ocells fh) e83 (hszL FL.out) (by rw [ocells_size, FL.out]; rfl) (ocells_one _) (fun _ h => h)⟩
              | 7, hi =>
                cases (show some _ = some o from hi)
                clear hdep hsame hi hlate hfr hkeep
                exact .inl ⟨wanted_none rfl, showsO_assign hsn rfl _ rfl rfl⟩
              | n + 8, hi => exact absurd hi (by simp)
            · intro f_ u own hsame hsn hall
              have hk6 := hsn.keepTwo
              have q79 : f_.tmps.getD 79 undef = .agg (ocells (fh)) := finO (V := (VGr29 ad a7 L cap c7 n3 n11 b0 fh cl)) hall 0 79 rfl
              have q80 : f_.tmps.getD 80 undef = .slice ad L cap := finO (V := (VGr29 ad a7 L cap c7 n3 n11 b0 fh cl)) hall 1 80 rfl
              have q81 : f_.tmps.getD 81 undef = .slice a7 L c7 := finO (V := (VGr29 ad a7 L cap c7 n3 n11 b0 fh cl)) hall 2 81 rfl
              have m82 := finO (V := (VGr29 ad a7 L cap c7 n3 n11 b0 fh cl)) hall 3 82 rfl
              obtain ⟨r82, q82⟩ : ∃ r, f_.tmps.getD 82 undef = r := ⟨_, rfl⟩
              rw [q82] at m82
              have q83 : f_.tmps.getD 83 undef = .agg (ocells (fh)) := finO (V := (VGr29 ad a7 L cap c7 n3 n11 b0 fh cl)) hall 4 83 rfl
              have m2 := finO (V := (VGr29 ad a7 L cap c7 n3 n11 b0 fh cl)) hall 5 2 rfl
              obtain ⟨r2, q2⟩ : ∃ r, f_.tmps.getD 2 undef = r := ⟨_, rfl⟩
              rw [q2] at m2
              obtain ⟨o_6, m_6⟩ : OutV own u (n3) 6 24 (ocells fh) := finN (V := (VGr29 ad a7 L cap c7 n3 n11 b0 fh cl)) hall 6 rfl
              have q4 : f_.tmps.getD 4 undef = .bool true := finO (V := (VGr29 ad a7 L cap c7 n3 n11 b0 fh cl)) hall 7 4 rfl
              obtain rfl := frame_eq hsame [(79, .agg (ocells (fh))), (80, .slice ad L cap), (81, .slice a7 L c7), (82, r82), (83, .agg (ocells (fh))), (2, r2), (4, .bool true)] (by kernel_rfl) ⟨q79, q80, q81, q82, q83, q2, q4, trivial⟩
              clear hall hsame q79 q80 q81 q82 q83 q2 q4
              simp only [List.foldl, List.setIfInBounds_toArray, List.set_cons_succ, List.set_cons_zero]
              have KU := Bx.mk (KX.out.trans (hk6.below KX.out.size (fun k hk => by have := N3W.out; omega)))
              have R3 := Bx.mk m_6; have M2 := Bx.mk m2.1
              clear hk6 hsn o_6 m_6 m2 m82
              go_wp2_with fail
              exact bodyPost_ret (results_trt rfl _ _ n3 _ (ocells fh) _ rfl R3.out (hszL FL.out)) rfl ⟨_, rfl, by rw [DLN.out, ← HBE.out, HCG.out]; exact M2.out, KU.out⟩
      · rw [if_neg hw] at hc
        have hwl : wl = false := by rw [HAL.out]; simpa using hw
        subst hwl
        have hL1 : 1 ≤ L := by
          rcases Nat.eq_zero_or_pos L with h | h
          · exfalso
            apply hw
            have : D = [] := List.length_eq_zero_iff.1 (by rw [HDL.out]; exact h)
            rw [this]; rfl
          · exact h
        cases ps with
        | nil => simp at hc
        | cons p0 r =>
        obtain ⟨rfl, rfl⟩ : fh = p0 ∧ rr = r := by cases hc; exact ⟨rfl, rfl⟩
        have HRR := Bx.mk (show rr.length = L by rw [HRL.out, HDL.out])
        obtain rfl : n = L + 1 := by rw [HN.out, List.length_cons, HRR.out]
        obtain ⟨hq0, hc1, hc2, Ba, off, e, hBl, hr, hpl⟩ := HHS.out.at 0 (by simp)
        cases e
        rw [Nat.zero_mul, Nat.add_zero, List.getElem_cons_zero] at hr
        have HR1 := Bx.mk (rangeAt_below hr hBl KW.out)
        rw [List.length_cons, HRR.out] at hc1
        have hcap : ¬ cap = 1 := by omega
        have HR := Bx.mk (show Hss w (.slice (some ⟨Ba, off + 32, none⟩) L (cap - 1)) rr by
          have h := HHS.out.tail (B := Ba) (off := off) (fun _ => rfl) (some ⟨Ba, off + 32, none⟩) (fun _ => rfl)
          rwa [HRR.out] at h)
        have f0 : (((L : Int) + 1) == 0) = false := by simp; omega
        have f1 : ¬ (L : Int) + 1 ≤ 0 := by omega
        have f2 : (0 : Int) < (L : Int) + 1 := by omega
        have f3 : ¬ (L : Int) + 1 < 1 := by omega
        have f4 : (1 : Int) ≤ (L : Int) + 1 := by omega
        clear hc hw HAL hq0 hr hpl hBl
        go_upto_region 22 with (first
          | (guard_target =~ wpList _ _ _ (⟨some 56, _, _, _, _, _⟩ :: _) _ _; refine wpList_load_mid rfl 24 (.tmp 55) rfl Ba off rfl (bcells fh) _ HR1.out underH rfl (hszB' FL.out) ?_)
          | (guard_target =~ wpList _ _ _ (⟨none, _, _, _, _, _⟩ :: _) _ _; refine wpList_store_row rfl 24 (.tmp 11) (.tmp 56) rfl n11 (ocells fh) rfl rfl _ _ X11.out (hszL FL.out) (by rw [ocells_size, ocells_size, BL.out, FL.out]) (ocells_one _) ?_))
        clear f0 f1 f2 f3 f4
        have x11 : (w1.setRow n11 (ocells fh)).heap[n11]? = some (.cells (ocells fh) 24 (0, 0)) := setRow_heap _ _ _ _ _ _ X11.out
        have x3 : (w1.setRow n11 (ocells fh)).heap[n3]? = some (.cells zeros32 24 (0, 0)) := (heap_setRow_other w1 _ _ _ N311.out).trans X3.out
        have kw := below_setRow KW.out (show w.heap.size ≤ n11 by have := NW11.out; have := N3W.out; omega) (ocells fh)
        have hor := own_keep HO.out (Keep.setRow w1 n11 (ocells fh)) (fun k hk e => by have := OFR.out k hk; omega)
        clear X11 X3 KW HO
        generalize w1.setRow n11 (ocells fh) = w2 at x11 x3 kw hor ⊢
        have X11 := Bx.mk x11; have X3 := Bx.mk x3; have KW := Bx.mk kw; have HO := Bx.mk hor
        clear x11 x3 kw hor
        go_upto_region 25 with (fail)
        have d3 : IntKind.i64.wrap ((L : Int) - 1) = (L : Int) - 1 := by have := LL.out; simp [IntKind.wrap, IntKind.bits, IntKind.signed]; omega
        go_wp2_with fail
        clear d3
        obtain ⟨wp, hwp⟩ : ∃ x, x = w2 := ⟨_, rfl⟩
        rw [← hwp] at KW X11 X3 HO ⊢
        clear hwp
        go_loopw [12, 13] (fun uv iv wq => ∃ (t : Nat) (z : Int), t ≤ L ∧ z = (L : Int) - 1 - t ∧ iv = .int .i64 z ∧ wq.ownsRow wp.heap.size 4 1 uv t (lcells (l.reverse.take t)) ∧ Below wp.heap.size wp wq) (fun _ iv _ => (intOf iv + 1).toNat)
        case atStart => exact ⟨0, (L : Int) - 1, Nat.zero_le _, by omega, by go_num, ⟨rfl, .inl ⟨rfl, rfl⟩⟩, Below.refl _ _⟩
        case round =>
          obtain ⟨t, z, ht, hz, rfl, hu, hv⟩ := hrel
          obtain ⟨a7, c7, rfl, q1, q2, q3⟩ := own_shape hu
          have HU := Bx.mk hu; have HV := Bx.mk hv
          clear hu q1 q2 q3
          by_cases hlt : t < L
          · obtain ⟨j, hj⟩ : ∃ j : Nat, z = (j : Int) := ⟨L - 1 - t, by omega⟩
            subst hj
            have hjL : j = L - 1 - t := by omega
            have hjl : j < l.length := by rw [← HLL.out]; omega
            obtain ⟨g, c, e, hgc, hgl, hcell⟩ := bools_at (own_keep HO.out (Keep.of_below hv (fun _ => False)) (fun _ _ h => h)) j hjl
            cases e
            have hsn : l.reverse.take (t + 1) = l.reverse.take t ++ [l[j]] := by
              rw [List.take_succ_eq_append_getElem (by rw [List.length_reverse, ← HLL.out]; exact hlt), List.getElem_reverse]
              congr 3
              rw [← HLL.out]; exact hjL.symm
            obtain ⟨x, hx⟩ : ∃ x, x = l[j] := ⟨_, rfl⟩
            rw [← hx] at hcell hsn
            have HS := Bx.mk hsn; have LT := Bx.mk (show t + 1 ≤ 64 by have := LL.out; omega)
            have HJL := Bx.mk hjL; have hjlt : j < L := by omega
            clear hsn hx hv hgc hgl hjl hjL hz
            go_upto_region 27 with (guard_target =~ wpList _ _ _ (⟨some 78, _, _, _, _, _⟩ :: _) _ _; refine wpList_append_src rfl (.tmp 72) (.tmp 77) 49 rfl wp.heap.size 4 i0 (.bool false) 1 1 underBo RI.out.1 RI.out.2.1 RI.out.2.2.1 RI.out.2.2.2 rfl (by decide) (.slice a7 t c7) t (lcells (l.reverse.take t)) rfl (row_push HU.out _) (some ⟨wr.heap.size, 0, none⟩) 1 1 [.bool x] rfl (fun h => by cases h) rfl (bo_src wr _ _ rfl) (by simp [Value.oneCell']) (by have := LT.out; unfold maxLen; omega) (by have := LT.out; omega) (by have := HV.out.size; simp; omega) ?_; intro v1 wy hown' hgrow _; have O1 := Bx.mk hown'; have G1 := Bx.mk hgrow; clear hown' hgrow)
            have b1 : Below wp.heap.size wp wy := (HV.out.alloc HV.out.size _).grown G1.out (Nat.le_trans HV.out.size (by simp)) (fun k hk => ownsRow_fresh HU.out k hk)
            have o1 := O1.out
            rw [lcells_push, ← HS.out] at o1
            have B1 := Bx.mk b1; have P1 := Bx.mk o1
            have d4 : IntKind.i64.wrap ((j : Int) - 1) = (j : Int) - 1 := by have := LL.out; simp [IntKind.wrap, IntKind.bits, IntKind.signed]; omega
            clear b1 o1 O1 G1 hcell
            go_wp2_with fail
            clear d4
            go_roundw
            case rel => exact ⟨t + 1, (j : Int) - 1, hlt, by have := HJL.out; omega, by go_num, P1.out, B1.out⟩
            case measure => (simp [intOf]) <;> omega
          · obtain rfl : L = t := by omega
            have htk : l.reverse.take L = D := by rw [HDD.out]; exact List.take_of_length_le (by rw [List.length_reverse, ← HLL.out]; exact Nat.le_refl _)
            rw [htk] at HU
            have hdl : D.length = L := by rw [HDD.out, List.length_reverse, HLL.out]
            have KX := Bx.mk (KW.out.trans (HV.out.mono KW.out.size))
            have Y11 := Bx.mk ((HV.out.block _ (Array.getElem?_eq_some_iff.1 X11.out).1).trans X11.out)
            have Y3 := Bx.mk ((HV.out.block _ (Array.getElem?_eq_some_iff.1 X3.out).1).trans X3.out)
            have HB0 := Bx.mk (Nat.le_trans KW.out.size HV.out.size)
            have hcc := fun (u : World) (hk : Keep (fun k => k = n3 ∨ k = n3) wr u) => climbs_any u fh FL.out (some ⟨Ba, off + 32, none⟩) L (cap - 1) rr
              (HR.out.below (KX.out.trans (hk.below KX.out.size (fun k hk => by have := N3W.out; omega)))) (.slice a7 L c7) D wp.heap.size (by rw [hdl]; exact own_keep HU.out hk (fun k hk e => by have := ownsRow_fresh HU.out k hk; have := (Array.getElem?_eq_some_iff.1 X3.out).1; omega)) (by rw [hdl]; exact HRR.out.symm) (by have := LL.out; rw [HRR.out]; omega) (HT.out.below (KX.out.trans (hk.below KX.out.size (fun k hk => by have := N3W.out; omega))))
            simp only [hv_agg, hdl] at hcc
            have CC := Bx.mk hcc
            have DLN := Bx.mk hdl
            clear hcc hdl htk hv ht hlt X11 X3 HO
            have X11 := Y11; have X3 := Y3
            generalize hclg : climbsP nd fh D rr = cl at CC
            obtain ⟨b0, hb0⟩ : ∃ b, b = w.heap.size := ⟨_, rfl⟩
            rw [← hb0] at HB0
            have HBE := Bx.mk hb0; have HCG := Bx.mk hclg
            clear hb0 hclg
            go_upto_region 29 with (fail)
            refine wp_region_own4 (n := 84) VGr29mk (ownTwo n3 n3 6 6) (VGr29 (some ⟨Ba, off + 32, none⟩) a7 L (cap - 1) c7 n3 n11 b0 fh cl) (by kernel_rfl) (by kernel_rfl) rfl (fun k hk => ownTwo_none (by have := (Array.getElem?_eq_some_iff.1 X3.out).1; omega) (by have := (Array.getElem?_eq_some_iff.1 X3.out).1; omega)) (fun j i hj _ => by cases hj) ?_ ?_ ?_
            · exact fun oi oj v own w own' w' hij hnd h r => VGr29_mono (some ⟨Ba, off + 32, none⟩) a7 L (cap - 1) c7 n3 n11 b0 fh cl oi oj v own w own' w' hij (by rintro rfl rfl; exact Bool.noConfusion (hnd.symm.trans (show depB _ 5 3 = true by kernel_rfl))) h r
            · intro oi o hi f u own hsame hsn hfr hlate hkeep hdep
              have hk6 := hsn.keepTwo
              match oi, hi with
              | 0, hi =>
                cases (show some _ = some o from hi)
                have e11 : f.tmps.getD 11 undef = .pointer (some ⟨n11, 0, none⟩) := hsame.slot 11 (fun i o h => invB2_not 11 (by kernel_rfl) h)
                clear hdep hsame hi hlate hfr hkeep
                exact .inl ⟨wanted_none rfl, showsO_row hsn rfl 24 (.tmp 11) rfl n11 e11 (ocells fh) ((hk6.block n11 (Array.getElem?_eq_some_iff.1 X11.out).1 (by have := N311.out; omega)).trans X11.out) underH rfl (hszL FL.out) rfl⟩
              | 1, hi =>
                cases (show some _ = some o from hi)
                have e10 : f.tmps.getD 10 undef = .slice (some ⟨Ba, off + 32, none⟩) L (cap - 1) := hsame.slot 10 (fun i o h => invB2_not 10 (by kernel_rfl) h)
                clear hdep hsame hi hlate hfr hkeep
                exact .inl ⟨wanted_none rfl, showsO_move hsn rfl _ rfl e10⟩
              | 2, hi =>
                cases (show some _ = some o from hi)
                have e12 : f.tmps.getD 12 undef = .slice a7 L c7 := hsame.slot 12 (fun i o h => invB2_not 12 (by kernel_rfl) h)
                clear hdep hsame hi hlate hfr hkeep
                exact .inl ⟨wanted_none rfl, showsO_move hsn rfl _ rfl e12⟩
              | 3, hi =>
                cases (show some _ = some o from hi)
                have e79 : (f.tmps.getD 79 undef) = .agg (ocells (fh)) := depO (V := (VGr29 (some ⟨Ba, off + 32, none⟩) a7 L (cap - 1) c7 n3 n11 b0 fh cl)) hdep 0 79 (by kernel_rfl) (by kernel_rfl)
                have e80 : (f.tmps.getD 80 undef) = .slice (some ⟨Ba, off + 32, none⟩) L (cap - 1) := depO (V := (VGr29 (some ⟨Ba, off + 32, none⟩) a7 L (cap - 1) c7 n3 n11 b0 fh cl)) hdep 1 80 (by kernel_rfl) (by kernel_rfl)
                have e81 : (f.tmps.getD 81 undef) = .slice a7 L c7 := depO (V := (VGr29 (some ⟨Ba, off + 32, none⟩) a7 L (cap - 1) c7 n3 n11 b0 fh cl)) hdep 2 81 (by kernel_rfl) (by kernel_rfl)
                clear hdep hsame hi hlate hfr hkeep
                have c := CC.out u hk6
                exact .inl ⟨wanted_none rfl, showsO_call (R := fun v w' => w'.ownsRow u.heap.size 55 64 v L (pcs cl)) hsn rfl 20 #[.agg (ocells (fh)), .slice (some ⟨Ba, off + 32, none⟩) L (cap - 1), .slice a7 L c7] (by simp only [execOp, Act.eval]; go_simp) (c.mono fun e w' ⟨v, h1, h2, h3⟩ => ⟨v, h1, h2, h3⟩) (fun v w' h _ => ⟨ownsRow_mono h (Nat.le_trans HB0.out hsn.size), fun k hk => .inr (hsn.top k (ownsRow_fresh h k hk))⟩)⟩
              | 4, hi =>
                cases (show some _ = some o from hi)
                have e11 : f.tmps.getD 11 undef = .pointer (some ⟨n11, 0, none⟩) := hsame.slot 11 (fun i o h => invB2_not 11 (by kernel_rfl) h)
                clear hdep hsame hi hlate hfr hkeep
                exact .inl ⟨wanted_none rfl, showsO_row hsn rfl 24 (.tmp 11) rfl n11 e11 (ocells fh) ((hk6.block n11 (Array.getElem?_eq_some_iff.1 X11.out).1 (by have := N311.out; omega)).trans X11.out) underH rfl (hszL FL.out) rfl⟩
              | 5, hi =>
                cases (show some _ = some o from hi)
                have e82 : GrownV own u 3 b0 55 64 (f.tmps.getD 82 undef) L (pcs cl) := depO (V := (VGr29 (some ⟨Ba, off + 32, none⟩) a7 L (cap - 1) c7 n3 n11 b0 fh cl)) hdep 3 82 (by kernel_rfl) (by kernel_rfl)
                clear hdep hsame hi hlate hfr hkeep
                exact .inl ⟨wanted_none rfl, showsO_assign hsn rfl _ rfl e82⟩
              | 6, hi =>
                cases (show some _ = some o from hi)
                have e3 : f.tmps.getD 3 undef = .pointer (some ⟨n3, 0, none⟩) := hsame.slot 3 (fun i o h => invB2_not 3 (by kernel_rfl) h)
                have e83 : (f.tmps.getD 83 undef) = .agg (ocells (fh)) := depO (V := (VGr29 (some ⟨Ba, off + 32, none⟩) a7 L (cap - 1) c7 n3 n11 b0 fh cl)) hdep 4 83 (by kernel_rfl) (by kernel_rfl)
                clear hdep hsame hi hlate hfr hkeep
                exact .inl ⟨wanted_none rfl, showsO_store_out hsn rfl 24 (.tmp 3) (.tmp 83) rfl (n3) e3 X3.out (ownTwo_one _ _ _ _) (ocells fh) e83 (hszL FL.out) (by rw [ocells_size, FL.out]; rfl) (ocells_one _) (fun _ h => h)⟩
              | 7, hi =>
                cases (show some _ = some o from hi)
                clear hdep hsame hi hlate hfr hkeep
                exact .inl ⟨wanted_none rfl, showsO_assign hsn rfl _ rfl rfl⟩
              | n + 8, hi => exact absurd hi (by simp)
            · intro f_ u own hsame hsn hall
              have hk6 := hsn.keepTwo
              have q79 : f_.tmps.getD 79 undef = .agg (ocells (fh)) := finO (V := (VGr29 (some ⟨Ba, off + 32, none⟩) a7 L (cap - 1) c7 n3 n11 b0 fh cl)) hall 0 79 rfl
              have q80 : f_.tmps.getD 80 undef = .slice (some ⟨Ba, off + 32, none⟩) L (cap - 1) := finO (V := (VGr29 (some ⟨Ba, off + 32, none⟩) a7 L (cap - 1) c7 n3 n11 b0 fh cl)) hall 1 80 rfl
              have q81 : f_.tmps.getD 81 undef = .slice a7 L c7 := finO (V := (VGr29 (some ⟨Ba, off + 32, none⟩) a7 L (cap - 1) c7 n3 n11 b0 fh cl)) hall 2 81 rfl
              have m82 := finO (V := (VGr29 (some ⟨Ba, off + 32, none⟩) a7 L (cap - 1) c7 n3 n11 b0 fh cl)) hall 3 82 rfl
              obtain ⟨r82, q82⟩ : ∃ r, f_.tmps.getD 82 undef = r := ⟨_, rfl⟩
              rw [q82] at m82
              have q83 : f_.tmps.getD 83 undef = .agg (ocells (fh)) := finO (V := (VGr29 (some ⟨Ba, off + 32, none⟩) a7 L (cap - 1) c7 n3 n11 b0 fh cl)) hall 4 83 rfl
              have m2 := finO (V := (VGr29 (some ⟨Ba, off + 32, none⟩) a7 L (cap - 1) c7 n3 n11 b0 fh cl)) hall 5 2 rfl
              obtain ⟨r2, q2⟩ : ∃ r, f_.tmps.getD 2 undef = r := ⟨_, rfl⟩
              rw [q2] at m2
              obtain ⟨o_6, m_6⟩ : OutV own u (n3) 6 24 (ocells fh) := finN (V := (VGr29 (some ⟨Ba, off + 32, none⟩) a7 L (cap - 1) c7 n3 n11 b0 fh cl)) hall 6 rfl
              have q4 : f_.tmps.getD 4 undef = .bool true := finO (V := (VGr29 (some ⟨Ba, off + 32, none⟩) a7 L (cap - 1) c7 n3 n11 b0 fh cl)) hall 7 4 rfl
              obtain rfl := frame_eq hsame [(79, .agg (ocells (fh))), (80, .slice (some ⟨Ba, off + 32, none⟩) L (cap - 1)), (81, .slice a7 L c7), (82, r82), (83, .agg (ocells (fh))), (2, r2), (4, .bool true)] (by kernel_rfl) ⟨q79, q80, q81, q82, q83, q2, q4, trivial⟩
              clear hall hsame q79 q80 q81 q82 q83 q2 q4
              simp only [List.foldl, List.setIfInBounds_toArray, List.set_cons_succ, List.set_cons_zero]
              have KU := Bx.mk (KX.out.trans (hk6.below KX.out.size (fun k hk => by have := N3W.out; omega)))
              have R3 := Bx.mk m_6; have M2 := Bx.mk m2.1
              clear hk6 hsn o_6 m_6 m2 m82
              go_wp2_with fail
              exact bodyPost_ret (results_trt rfl _ _ n3 _ (ocells fh) _ rfl R3.out (hszL FL.out)) rfl ⟨_, rfl, by rw [DLN.out, ← HBE.out, HCG.out]; exact M2.out, KU.out⟩
end Go.Proofs.YtmlpldkgennmkaaDoor
