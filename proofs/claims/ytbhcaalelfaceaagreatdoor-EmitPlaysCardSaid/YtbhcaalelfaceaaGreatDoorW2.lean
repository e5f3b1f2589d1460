/- cartularylaw01.Book over nodes: the mark, and whether it is there. cartularylaw01.Book, kind Node: fill. cartularylaw01.Book, kind Node: grow. cartularylaw01.Book, kind Node: look. cartularylaw01.Book: keep of one kind of list. cartularylaw01.Book of Hash and Node alone: Apart. -/
import Derived.Test.YtbhcaalelfaceaaGreatDoorW1
import Derived.Test.YtbhcaalelfaceaaGreatDoorEmQ
section
namespace Go.Proofs.YtbhcaalelfaceaaGreatDoor
set_option maxRecDepth 100000
open Go.RowKit
theorem zeroB_len : (List.replicate 32 (0 : UInt8)).length = 32 := by simp
/-- the mark as a node -/
def mkNd (n : Nat) : Nat × Nat × List UInt8 := (202, n, List.replicate 32 0)
def mkNode (n : Nat) : Array Value := ncell (mkNd n)
def zeros34 : Array Value := #[.int .u8 0, .int .u64 0, .int .u8 0, .int .u8 0, .int .u8 0, .int .u8 0, .int .u8 0, .int .u8 0, .int .u8 0, .int .u8 0, .int .u8 0, .int .u8 0, .int .u8 0, .int .u8 0, .int .u8 0, .int .u8 0, .int .u8 0, .int .u8 0, .int .u8 0, .int .u8 0, .int .u8 0, .int .u8 0, .int .u8 0, .int .u8 0, .int .u8 0, .int .u8 0, .int .u8 0, .int .u8 0, .int .u8 0, .int .u8 0, .int .u8 0, .int .u8 0, .int .u8 0, .int .u8 0]
theorem mkNode_size (n : Nat) : (mkNode n).size = 34 := ncell_size zeroB_len
theorem mkNode_len (n : Nat) : (mkNode n).toList.length = 34 := by rw [Array.length_toList]; exact mkNode_size n
theorem mkNode_one (n : Nat) : (mkNode n).all (·.oneCell') = true := by
  rw [Array.all_eq_true_iff_forall_mem]
  intro u hu
  unfold mkNode ncell at hu
  rcases Array.mem_append.1 hu with h | h
  · simp at h; rcases h with rfl | rfl <;> rfl
  · have h1 := ocells_one (mkNd n).2.2
    rw [Array.all_eq_true_iff_forall_mem] at h1
    exact h1 u h
theorem built_mkC (n : Nat) : Tryz.prog.built 119 [(0, .int .u8 202), (1, .int .u64 (n : Int))] = some #[.int .u8 202, .int .u64 (n : Int)] := by kernel_rfl
theorem built_mkN (n : Nat) : Tryz.prog.built 130 [(0, .agg #[.int .u8 202, .int .u64 (n : Int)])] = some (mkNode n) := by kernel_rfl
theorem sizeNodeM (n : Nat) : (Tryz.prog.info? 130).map (·.size) = some (mkNode n).size := by kernel_rfl
set_option maxHeartbeats 1600000 in
theorem markNode_any (w : World) (n : Nat) (hn : n ≤ 100000000) : Calls Tryz.prog 91 #[.int .i64 (n : Int)] w fun e w' => e = .returned (.agg (mkNode n)) ∧ Below w.heap.size w w' := by
  have hw : IntKind.u64.wrap (n : Int) = (n : Int) := by simp [IntKind.wrap, IntKind.bits, IntKind.signed]; omega
  have HB := Bx.mk (built_mkN n)
  obtain ⟨MK, hMK⟩ : ∃ MK, MK = mkNode n := ⟨_, rfl⟩
  have SZ : Bx ((Tryz.prog.info? 130).map (·.size) = some MK.size) := ⟨by rw [hMK]; exact sizeNodeM n⟩
  have ONE : Bx (MK.all (·.oneCell') = true) := ⟨by rw [hMK]; exact mkNode_one n⟩
  rw [← hMK] at HB ⊢
  obtain ⟨Z, hZ⟩ : ∃ Z : Array Value, Z = zeros34 := ⟨_, rfl⟩
  have ZS : Bx (Z.size = MK.size) := ⟨by rw [hZ, hMK, mkNode_size]; rfl⟩
  clear hMK
  go_enter Tryz.func91, Tryz.ntmps91
  go_upto_region 1 with (fail)
  change Code.wp _ _ _ _ (w.alloc (.cells zeros34 130))
  rw [← hZ]
  clear hZ
  go_wp2_with (first
    | (guard_target =~ wpList _ _ _ (⟨some 6, _, _, _, _, _⟩ :: _) _ _; refine wpList_build_c (by simp [Region.wanted]) 130 #[(0, .tmp 5)] rfl MK (by simp only [List.map_toArray, List.map_cons, List.map_nil]; exact HB.out) ?_)
    | (guard_target =~ wpList _ _ _ (⟨none, _, _, _, _, _⟩ :: _) _ _; refine wpList_store_row rfl 130 (.tmp 2) (.tmp 6) rfl w.heap.size MK rfl rfl _ Z (heap_alloc_new _ _) SZ.out ZS.out ONE.out ?_; rw [setRow_alloc_new _ _ _ _ _ rfl]))
  refine bodyPost_ret (results_cell_row rfl _ _ w.heap.size _ MK _ _ rfl (heap_alloc_new _ _) Tryz.underlying130 rfl SZ.out) rfl ⟨rfl, er_al (Below.refl _ _) _⟩
theorem eql_node (u : World) (p : Nat × Nat × List UInt8) (hp : p.2.2.length = 32) : (binOp .eql 130 (.agg (ncell p)) (.agg (ncell p))).run Tryz.prog u = .ok (.bool true) u := by
  rw [run_eql_struct, show (10000 : Nat) = 9999 + 1 from rfl, eq_node u p p hp hp]; simp
set_option maxHeartbeats 1600000 in
theorem isNode_any (w : World) (n : Nat) (hn : n ≤ 100000000) : Calls Tryz.prog 106 #[.agg (mkNode n), .int .i64 (n : Int)] w fun e w' => e = .returned (.bool true) ∧ Below w.heap.size w w' := by
  have hw : IntKind.u64.wrap (n : Int) = (n : Int) := by simp [IntKind.wrap, IntKind.bits, IntKind.signed]; omega
  have HB := Bx.mk (built_mkN n)
  have q : ∀ u, (binOp .eql 130 (.agg (mkNode n)) (.agg (mkNode n))).run Tryz.prog u = .ok (.bool true) u := fun u => eql_node u (mkNd n) zeroB_len
  obtain ⟨MK, hMK⟩ : ∃ MK, MK = mkNode n := ⟨_, rfl⟩
  have SZ : Bx ((Tryz.prog.info? 130).map (·.size) = some MK.size) := ⟨by rw [hMK]; exact sizeNodeM n⟩
  rw [← hMK] at HB q ⊢
  clear hMK
  have xN := heap_alloc_new w (.cells MK 130)
  have kb := er_al (Below.refl w.heap.size w) (.cells MK 130)
  go_enter Tryz.func106, Tryz.ntmps106
  go_upto_region 1 with (fail)
  change Code.wp _ _ _ _ (w.alloc (.cells MK 130))
  generalize w.alloc (.cells MK 130) = W at xN kb ⊢
  obtain ⟨N, hN⟩ : ∃ N, N = w.heap.size := ⟨_, rfl⟩
  rw [← hN] at xN ⊢
  have XN := Bx.mk xN; have KB := Bx.mk kb
  clear xN kb hN
  go_wp2_with (first
    | (guard_target =~ wpList _ _ _ (⟨some 5, _, _, _, _, _⟩ :: _) _ _; refine wpList_load_row rfl 130 (.tmp 2) rfl N rfl _ _ _ _ XN.out Tryz.underlying130 rfl SZ.out ?_)
    | (guard_target =~ wpList _ _ _ (⟨some 9, _, _, _, _, _⟩ :: _) _ _; refine wpList_build_c (by simp [Region.wanted]) 130 #[(0, .tmp 8)] rfl MK (by simp only [List.map_toArray, List.map_cons, List.map_nil]; exact HB.out) ?_))
  go_ret
  exact ⟨rfl, KB.out⟩
end Go.Proofs.YtbhcaalelfaceaaGreatDoor
end
section
namespace Go.Proofs.YtbhcaalelfaceaaGreatDoor
set_option maxRecDepth 100000
open Go.RowKit
theorem mkNodeL (n : Nat) : (mkNode n).toList.length = 34 := mkNode_len n
theorem mkNodeS (n : Nat) : (Tryz.prog.info? 130).map (·.size) = some (mkNode n).size := by rw [show (mkNode n).size = 34 from (Array.length_toList ..).symm.trans (mkNode_len n)]; kernel_rfl
theorem mkNodeA (n : Nat) : (mkNode n).all (·.oneCell') = true := mkNode_one n
theorem mkNodeE (n : Nat) : ∀ u ∈ (mkNode n).toList, u.oneCell' = true := fun u hu => by
  have h := mkNodeA n
  rw [Array.all_eq_true_iff_forall_mem] at h
  exact h u (by simpa using hu)
set_option maxHeartbeats 3200000 in
theorem fillNode_any (base : Nat) (w : World) (b n : Nat) (l : Nat → Value) (m : Nat) (V : Nat → Value) (N : Nat → Nat) (X : Nat → List Value) (G : Nat → Value) (Kn : Nat → Nat) (h : BkL 8 128 130 34 base w b n l m V N X G Kn) (hbase : base ≤ w.heap.size) (hm : m ≤ 100000000) (hN : ∀ i, i < m → N i ≤ 100000000 ∧ Kn i ≤ 100000000) :
    Calls Tryz.prog 29 #[.pointer (some ⟨b, 4, none⟩)] w fun e w' => e = .returned (.tuple #[]) ∧ BkL 8 128 130 34 base w' b n l m V N (fun i => fillX (mkNode (Kn i)).toList (X i) (N i)) G Kn ∧ Keep (fun k => ∃ i, i < m ∧ (V i).ownBlock = some k) w w' := by
  have HH := Bx.mk h; have MB := Bx.mk hm; have NB := Bx.mk hN; have HBS := Bx.mk hbase
  clear h hm hN hbase
  go_enter Tryz.func29, Tryz.ntmps29
  go_wp2_with fail
  go_loopw [2] (fun iv wr => ∃ t : Nat, t ≤ m ∧ iv = .int .i64 (t : Int) ∧ BkL 8 128 130 34 base wr b n l m V N (fun i => if i < t then fillX (mkNode (Kn i)).toList (X i) (N i) else X i) G Kn ∧ Keep (fun k => ∃ i, i < m ∧ (V i).ownBlock = some k) w wr) (fun iv _ => m - (intOf iv).toNat)
  case atStart => exact ⟨0, Nat.zero_le _, rfl, (by simpa using HH.out), Keep.refl _ _⟩
  case round =>
    obtain ⟨t, ht, rfl, hB, hk⟩ := hrel
    obtain ⟨wo, rfl⟩ : ∃ wo, wo = wr := ⟨_, rfl⟩
    have BB := Bx.mk hB; have KK := Bx.mk hk
    obtain ⟨la, lc, hs, -, -, -⟩ := own_shapeK hB.row
    have HS := Bx.mk hs
    have cJ : wo.cell? ⟨b, 12, none⟩ = some (.slice la m lc) := by rw [← hs]; exact er_cellAt hB.bk.hb 12 _ rfl
    clear hB hk hs
    by_cases hlt : t < m
    · have hro := BB.out.row
      rw [HS.out] at hro
      obtain ⟨gl, rfl, hgl, hrg⟩ := hd_range hro hlt
      obtain ⟨va, vc, hv, -, -, -⟩ := own_shapeK (BB.out.li t hlt)
      obtain ⟨nt, hnt⟩ : ∃ nt, nt = N t := ⟨_, rfl⟩
      obtain ⟨kt, hkt⟩ : ∃ kt, kt = Kn t := ⟨_, rfl⟩
      obtain ⟨ga, gn, gc, hg⟩ : ∃ ga gn gc, G t = .slice ga gn gc := BB.out.gs t hlt
      rw [hv, hg, ← hnt, ← hkt] at hrg
      have RG := Bx.mk hrg; have TL := Bx.mk hlt; have HV := Bx.mk hv; have HNT := Bx.mk hnt; have HKT := Bx.mk hkt
      have f1 : (t : Int) < (m : Int) := by omega
      clear hro hgl hrg hv hnt hkt hg hlt ht
      go_wp2_with (first
        | (guard_target =~ wpList _ _ _ (⟨some 20, _, _, _, _, _⟩ :: _) _ _; refine wpList_load_mid rfl 128 (.tmp 19) rfl gl (t * 3) rfl _ _ RG.out Tryz.underlying128 rfl (by kernel_rfl) ?_)
        | (guard_target =~ wpList _ _ _ (⟨none, _, _, _, _, _⟩ :: _) _ _; refine wpList_store_row rfl 128 (.tmp 3) (.tmp 20) rfl wo.heap.size #[.slice va nt vc, .slice ga gn gc, .int .i64 (kt : Int)] rfl rfl _ #[.slice none 0 0, .slice none 0 0, .int .i64 0] (heap_alloc_new _ _) (by kernel_rfl) rfl (by simp [Value.oneCell']) ?_; rw [setRow_alloc_new _ _ _ _ rfl]))
      have h1 := er_al (Below.refl wo.heap.size wo) (.cells #[.slice va nt vc, .slice ga gn gc, .int .i64 (kt : Int)] 128)
      have h2 := heap_alloc_new wo (.cells #[.slice va nt vc, .slice ga gn gc, .int .i64 (kt : Int)] 128)
      generalize wo.alloc (.cells #[.slice va nt vc, .slice ga gn gc, .int .i64 (kt : Int)] 128) = W1 at h1 h2 ⊢
      obtain ⟨H, hH⟩ : ∃ H, H = wo.heap.size := ⟨_, rfl⟩
      rw [← hH] at h2 ⊢
      obtain ⟨x0, hx0⟩ : ∃ x0, x0 = X t := ⟨_, rfl⟩
      obtain ⟨MK, hMK⟩ : ∃ MK, MK = (mkNode kt).toList := ⟨_, rfl⟩
      have MKL : Bx (MK.length = 34) := ⟨by rw [hMK]; exact mkNodeL kt⟩
      have ho : W1.ownsRow base 130 34 (.slice va nt vc) nt (fillX MK x0 0) := by
        have h := BB.out.li t TL.out
        simp only [Nat.lt_irrefl, if_false] at h
        rw [HV.out, ← HNT.out, ← hx0] at h
        rw [fillX_zero]
        exact ownsRow_keep' h fun j hj => h1.block j (ownsRow_lt h j hj)
      have OLT := Bx.mk (show ∀ j, (Value.slice va nt vc).ownBlock = some j → j < H from fun j hj => by
        have h := BB.out.li t TL.out
        rw [HV.out, ← HNT.out] at h
        rw [hH]; exact ownsRow_lt h j hj)
      have K1 := Bx.mk h1; have H1 := Bx.mk h2; have HH2 := Bx.mk hH; have HX0 := Bx.mk hx0; have HMK := Bx.mk hMK; have O1 := Bx.mk ho
      have NT := Bx.mk (show nt ≤ 100000000 ∧ kt ≤ 100000000 by rw [HNT.out, HKT.out]; exact NB.out t TL.out)
      clear h1 h2 hH hx0 hMK ho cJ f1
      go_loopw [4] (fun kv wq => ∃ k : Nat, k ≤ nt ∧ kv = .int .i64 (k : Int) ∧ wq.ownsRow base 130 34 (.slice va nt vc) nt (fillX MK x0 k) ∧ wq.heap[H]? = some (.cells #[.slice va nt vc, .slice ga gn gc, .int .i64 (kt : Int)] 128 (0, 0)) ∧ Keep (fun j => (Value.slice va nt vc).ownBlock = some j) W1 wq) (fun kv _ => nt - (intOf kv).toNat)
      case atStart => exact ⟨0, Nat.zero_le _, rfl, O1.out, H1.out, Keep.refl _ _⟩
      case round =>
        obtain ⟨k, hk, rfl, ho, hh, hkp⟩ := hrel
        have OQ := Bx.mk ho; have HQ := Bx.mk hh; have KQ := Bx.mk hkp
        have c0 := er_cellAt hh 0 _ rfl
        clear ho hkp
        by_cases hlt : k < nt
        · obtain ⟨g, rfl⟩ : ∃ g, va = some ⟨g, 0, none⟩ := by
            rcases id OQ.out.2 with ⟨_, h0⟩ | ⟨g, c', cur, e1, _⟩
            · omega
            · cases e1; exact ⟨g, rfl⟩
          obtain ⟨cur, hG⟩ := rowG_of OQ.out
          have c2 := er_cellAt hh 2 _ rfl
          have d0 : ∀ u : Blw wr.heap.size wr, u.w.cell? ⟨H, 0, none⟩ = some (.slice (some ⟨g, 0, none⟩) nt vc) := fun u => (u.h.cell (p := ⟨H, 0, none⟩) (Array.getElem?_eq_some_iff.1 hh).1).trans c0
          have d2 : ∀ u : Blw wr.heap.size wr, u.w.cell? ⟨H, 2, none⟩ = some (.int .i64 (kt : Int)) := fun u => (u.h.cell (p := ⟨H, 2, none⟩) (Array.getElem?_eq_some_iff.1 hh).1).trans c2
          have ne := Blw.ne wr.heap.size wr
          have CM : Bx (∀ u, Below wr.heap.size wr u → Calls Tryz.prog 91 #[.int .i64 (kt : Int)] u fun e w' => e = .returned (.agg (mkNode kt)) ∧ Below u.heap.size u w') := ⟨fun u _ => markNode_any u kt NT.out.2⟩
          have RG2 := Bx.mk hG; have KL := Bx.mk hlt
          have f1 : (k : Int) < (nt : Int) := by omega
          have HL := Bx.mk (Array.getElem?_eq_some_iff.1 hh).1
          clear hG hlt hk hh
          go_upto_region 7 with (fail)
          refine wp_region_quiet_tail (C := fun w' => ∃ u : Blw wr.heap.size wr, w' = u.w) 7 (by kernel_rfl) (by kernel_rfl) ⟨⟨_, (Below.refl _ _).drew⟩, rfl⟩ ?_
          simp only [List.take_succ_cons, List.take_zero, List.drop_succ_cons, List.drop_zero]
          iterate 5 go_big_quiet_step (fail)
          go_big_quiet_step (exact Calls.blw (Nat.le_refl _) CM.out)
          go_big_quiet_step (fail)
          refine wpQuiet_nil ?_
          rintro _ ⟨u, rfl⟩
          have hG5 := RG2.out.kept (u.h.block g (Array.getElem?_eq_some_iff.1 RG2.out.hb).1)
          have hrm := hG5.there (o := k * 34) (m := (mkNode kt).size) (by rw [mkNode_size]; have := KL.out; omega)
          obtain ⟨cur2, hG6⟩ := hG5.setCells (mkNode kt).toList (k * 34)
          have hxl : x0.length = nt * 34 := by have h := O1.out.1; rw [fillX_zero] at h; exact h
          have hst := fillX_step MK x0 k (by rw [MKL.out, hxl]; have := KL.out; omega)
          rw [MKL.out] at hst
          have OWN := Bx.mk (show (u.w.setCells g (k * 34) (mkNode kt).toList).ownsRow base 130 34 (.slice (some ⟨g, 0, none⟩) nt vc) nt (fillX MK x0 (k + 1)) by rw [← hst, HMK.out]; have h := hG6.own; rw [HMK.out] at h; exact h)
          have KS := keep_setCells g (mkNode kt).toList (k * 34) u.w
          have gH : g < H := OLT.out g rfl
          have HX := Bx.mk (show (u.w.setCells g (k * 34) (mkNode kt).toList).heap[H]? = _ from (KS.block H (Nat.lt_of_lt_of_le HL.out u.h.size) (by omega)).trans ((u.h.block H HL.out).trans HQ.out))
          have KP := Bx.mk (KQ.out.trans ((Keep.of_below u.h (fun j => (Value.slice (some ⟨g, 0, none⟩) nt vc).ownBlock = some j)).trans (KS.mono (S' := fun j => (Value.slice (some ⟨g, 0, none⟩) nt vc).ownBlock = some j) (fun j _ hj => by subst hj; rfl)) (fun _ _ h => h)) (fun _ _ h => h))
          have RM := Bx.mk hrm
          clear hG5 hrm hG6 hxl hst KS gH d0 d2 c0 c2 ne f1
          go_wp2_with (guard_target =~ wpList _ _ _ (⟨none, _, _, _, _, _⟩ :: _) _ _; refine wpList_store_mid rfl 130 (.tmp 34) (.tmp 33) rfl g (k * 34) (mkNode kt) rfl rfl RM.out (mkNodeS kt) (mkNodeA kt) ?_)
          go_roundw
          case rel => exact ⟨k + 1, KL.out, (by rw [wrap_succB k (by have := KL.out; have := NT.out.1; omega)]), OWN.out, HX.out, KP.out⟩
          case measure => rw [wrap_succB k (by have := KL.out; have := NT.out.1; omega)]; have := KL.out; simp [intOf]; omega
        · have KE := Bx.mk (show k = nt by omega)
          have f1 : ¬ (k : Int) < (nt : Int) := by omega
          clear hlt hk hh
          go_wp2_with fail
          go_roundw
          case rel => exact ⟨t + 1, TL.out, (by rw [wrap_succB t (by have := TL.out; have := MB.out; omega)]), BB.out.turn TL.out (by rw [HV.out, ← HNT.out]; exact (Keep.of_below K1.out (fun j => (Value.slice va nt vc).ownBlock = some j)).trans KQ.out (fun _ _ h => h)) (fun i e => by
              have : (i < t + 1) = (i < t) := by rw [eq_iff_iff]; omega
              simp only [this]) (by
              simp only [Nat.lt_succ_self, if_true]
              have h := OQ.out
              rw [KE.out, HX0.out, HMK.out, HKT.out] at h
              rw [HV.out, ← HNT.out]; exact h), KK.out.trans (((Keep.of_below K1.out (fun j => (Value.slice va nt vc).ownBlock = some j)).trans KQ.out (fun _ _ h => h)).mono (S' := fun k => ∃ i, i < m ∧ (V i).ownBlock = some k) (fun j _ hj => ⟨t, TL.out, by rw [HV.out, ← HNT.out]; exact hj⟩)) (fun _ _ h => h)⟩
          case measure => rw [wrap_succB t (by have := TL.out; have := MB.out; omega)]; have := TL.out; simp [intOf]; omega
    · obtain rfl : t = m := by omega
      clear ht hlt
      go_wp2_with fail
      go_end0
      exact ⟨rfl, ⟨BB.out.bk, BB.out.row, fun i hi => by have h := BB.out.li i hi; simpa [hi] using h, BB.out.sep, BB.out.nb, BB.out.gs, BB.out.ht⟩, KK.out⟩
end Go.Proofs.YtbhcaalelfaceaaGreatDoor
end
section
namespace Go.Proofs.YtbhcaalelfaceaaGreatDoor
set_option maxRecDepth 100000
open Go.RowKit
theorem bs_mkNode (w : World) (n : Nat) : (Instr.buildSlice 83 1 #[(0, .agg (mkNode n))]).run Tryz.prog w = .ok (.slice (some ⟨w.heap.size, 0, none⟩) 1 1) (w.alloc (.cells (mkNode n) 130)) := by kernel_rfl
theorem run_bs_mkNode {o : Oper} {a : Act} (w : World) (x : Operand) (ho : o.op = .buildSlice 83 1 #[(0, x)]) (n : Nat) (hx : a.eval x = .agg (mkNode n)) :
    (execOp a.eval o).run Tryz.prog w = .ok (.value (.slice (some ⟨w.heap.size, 0, none⟩) 1 1)) (w.alloc (.cells (mkNode n) 130)) := by
  have hr := bs_mkNode w n
  unfold execOp
  simp only [ho, List.map_toArray, List.map_cons, List.map_nil, hx, Sem.run_bind, hr, Result.andThen_ok, Sem.run_pure]
theorem info_mkNodeB : (Tryz.prog.info? 130).map (fun i => (i.zero, i.size, i.bytes)) = some (some (.agg zeros34), 34, 48) := by kernel_rfl
set_option maxHeartbeats 3200000 in
theorem growNode_any (base : Nat) (w : World) (b n : Nat) (l : Nat → Value) (m : Nat) (V : Nat → Value) (N : Nat → Nat) (G : Nat → Value) (Kn : Nat → Nat) (h : BkL 8 128 130 34 base w b n l m V N (fun i => marks (mkNode (Kn i)).toList (N i)) G Kn) (hbase : base ≤ w.heap.size) (hm : m ≤ 100000000) (hN : ∀ i, i < m → N i ≤ 100000000 ∧ Kn i ≤ 100000000) :
    Calls Tryz.prog 45 #[.pointer (some ⟨b, 4, none⟩)] w fun e w' => e = .returned (.tuple #[]) ∧ ∃ G', BkL 8 128 130 34 base w' b n l m V N (fun i => marks (mkNode (Kn i)).toList (N i)) G' Kn ∧ (∀ i, i < m → w'.ownsRow base 130 34 (G' i) (N i + 70) (marks (mkNode (Kn i)).toList (N i + 70)) ∧ ∀ k, (G' i).ownBlock = some k → (V i).ownBlock = some k ∨ w.heap.size ≤ k) ∧ Keep (fun k => (∃ i, i < m ∧ (V i).ownBlock = some k) ∨ (l 8).ownBlock = some k) w w' := by
  have HH := Bx.mk h; have MB := Bx.mk hm; have NB := Bx.mk hN; have HBS := Bx.mk hbase
  have VL := Bx.mk (fun i (hi : i < m) j (hj : (V i).ownBlock = some j) => ownsRow_lt (h.li i hi) j hj)
  have LL := Bx.mk (fun j (hj : (l 8).ownBlock = some j) => ownsRow_lt h.row j hj)
  clear h hm hN hbase
  go_enter Tryz.func45, Tryz.ntmps45
  go_wp2_with fail
  go_loopw [2] (fun iv wr => ∃ (t : Nat) (G' : Nat → Value), t ≤ m ∧ iv = .int .i64 (t : Int) ∧ BkL 8 128 130 34 base wr b n l m V N (fun i => marks (mkNode (Kn i)).toList (N i)) G' Kn ∧ (∀ i, i < t → wr.ownsRow base 130 34 (G' i) (N i + 70) (marks (mkNode (Kn i)).toList (N i + 70)) ∧ ∀ k, (G' i).ownBlock = some k → (V i).ownBlock = some k ∨ w.heap.size ≤ k) ∧ Keep (fun k => (∃ i, i < m ∧ (V i).ownBlock = some k) ∨ (l 8).ownBlock = some k) w wr) (fun iv _ => m - (intOf iv).toNat)
  case atStart => exact ⟨0, G, Nat.zero_le _, rfl, HH.out, (fun i hi => absurd hi (Nat.not_lt_zero _)), Keep.refl _ _⟩
  case round =>
    obtain ⟨t, G', ht, rfl, hB, hg, hk⟩ := hrel
    obtain ⟨wo, rfl⟩ : ∃ wo, wo = wr := ⟨_, rfl⟩
    have BB := Bx.mk hB; have KK := Bx.mk hk; have GG := Bx.mk hg
    obtain ⟨la, lc, hs, -, -, -⟩ := own_shapeK hB.row
    have HS := Bx.mk hs
    have cJ : wo.cell? ⟨b, 12, none⟩ = some (.slice la m lc) := by rw [← hs]; exact er_cellAt hB.bk.hb 12 _ rfl
    clear hB hk hs hg
    by_cases hlt : t < m
    · have hro := BB.out.row
      rw [HS.out] at hro
      obtain ⟨gl, rfl, hgl, hrg⟩ := hd_range hro hlt
      obtain ⟨va, vc, hv, -, -, -⟩ := own_shapeK (BB.out.li t hlt)
      obtain ⟨nt, hnt⟩ : ∃ nt, nt = N t := ⟨_, rfl⟩
      obtain ⟨kt, hkt⟩ : ∃ kt, kt = Kn t := ⟨_, rfl⟩
      obtain ⟨ga, gn, gc, hg⟩ : ∃ ga gn gc, G' t = .slice ga gn gc := BB.out.gs t hlt
      rw [hv, hg, ← hnt, ← hkt] at hrg
      have RG := Bx.mk hrg; have TL := Bx.mk hlt; have HV := Bx.mk hv; have HNT := Bx.mk hnt; have HKT := Bx.mk hkt
      have f1 : (t : Int) < (m : Int) := by omega
      clear hro hgl hrg hv hnt hkt hg hlt ht
      go_upto_region 4 with (first
        | (guard_target =~ wpList _ _ _ (⟨some 21, _, _, _, _, _⟩ :: _) _ _; refine wpList_load_mid rfl 128 (.tmp 20) rfl gl (t * 3) rfl _ _ RG.out Tryz.underlying128 rfl (by kernel_rfl) ?_)
        | (guard_target =~ wpList _ _ _ (⟨none, _, _, _, _, _⟩ :: _) _ _; refine wpList_store_row rfl 128 (.tmp 3) (.tmp 21) rfl wo.heap.size #[.slice va nt vc, .slice ga gn gc, .int .i64 (kt : Int)] rfl rfl _ #[.slice none 0 0, .slice none 0 0, .int .i64 0] (heap_alloc_new _ _) (by kernel_rfl) rfl (by simp [Value.oneCell']) ?_; rw [setRow_alloc_new _ _ _ _ rfl]))
      have h1 := er_al (Below.refl wo.heap.size wo) (.cells #[.slice va nt vc, .slice ga gn gc, .int .i64 (kt : Int)] 128)
      have h2 := heap_alloc_new wo (.cells #[.slice va nt vc, .slice ga gn gc, .int .i64 (kt : Int)] 128)
      generalize wo.alloc (.cells #[.slice va nt vc, .slice ga gn gc, .int .i64 (kt : Int)] 128) = W1 at h1 h2 ⊢
      obtain ⟨H, hH⟩ : ∃ H, H = wo.heap.size := ⟨_, rfl⟩
      rw [← hH] at h2 ⊢
      have K1 := Bx.mk h1
      have H1 := Bx.mk h2
      have HH2 := Bx.mk hH
      have e0 := er_cellAt h2 0 _ rfl
      clear h1 h2 hH cJ f1
      go_wp2_with fail
      obtain ⟨MK, hMK⟩ : ∃ MK, MK = (mkNode kt).toList := ⟨_, rfl⟩
      have MKL : Bx (MK.length = 34) := ⟨by rw [hMK]; exact mkNodeL kt⟩
      have HMK := Bx.mk hMK
      have ho : LongP W1 W1 base 130 34 (.slice va nt vc) nt MK (.slice va nt vc) 0 := by
        have h := BB.out.li t TL.out
        rw [HV.out, ← HNT.out, ← HKT.out, ← hMK] at h
        have h3 := ownsRow_keep' h fun j hj => K1.out.block j (ownsRow_lt h j hj)
        exact ⟨h3, h3, .inr (.inl ⟨rfl, rfl⟩), Keep.refl _ _⟩
      have O1 := Bx.mk ho
      have NT := Bx.mk (show nt ≤ 100000000 ∧ kt ≤ 100000000 by rw [HNT.out, HKT.out]; exact NB.out t TL.out)
      have OLT := Bx.mk (show ∀ j, (Value.slice va nt vc).ownBlock = some j → j < H from fun j hj => by
        have h := BB.out.li t TL.out
        rw [HV.out, ← HNT.out] at h
        rw [HH2.out]; exact ownsRow_lt h j hj)
      clear hMK ho e0
      go_loopw [4, 5] (fun lv kv wq => ∃ k : Nat, k ≤ 70 ∧ kv = .int .i64 (k : Int) ∧ LongP W1 wq base 130 34 (.slice va nt vc) nt MK lv k) (fun _ kv _ => 70 - (intOf kv).toNat)
      case atStart => exact ⟨0, by decide, rfl, O1.out⟩
      case round =>
        obtain ⟨k, hk, rfl, hL⟩ := hrel
        obtain ⟨a4, c4, rfl, -, -, -⟩ := own_shapeK hL.long
        have LP := Bx.mk hL
        have hh := (hL.keep.block H (Array.getElem?_eq_some_iff.1 H1.out).1 (fun e => by have := OLT.out H e; omega)).trans H1.out
        have c2 := er_cellAt hh 2 _ rfl
        clear hL hh
        by_cases hlt : k < 70
        · have KL := Bx.mk hlt
          have f1 : (k : Int) < 70 := by omega
          clear hlt hk
          go_wp2_with fail
          refine (markNode_any wr kt NT.out.2).mono ?_
          rintro e wq ⟨rfl, hb⟩
          have LA := Bx.mk ((LP.out.below hb).below (er_al (Below.refl wq.heap.size wq) (.cells (mkNode kt) 130)))
          have NEWS : Bx (∀ j u, MK[j]? = some u → (wq.alloc (.cells (mkNode kt) 130)).cell? ((⟨wq.heap.size, 0, none⟩ : Addr).add j) = some u) := ⟨fun j u hu => by
            rw [HMK.out, Array.getElem?_toList] at hu
            have := er_cellAt (heap_alloc_new wq (.cells (mkNode kt) 130)) j u hu
            rw [Addr.add_mid, Nat.zero_add]
            exact this⟩
          have ONE : Bx (∀ u ∈ MK, u.oneCell' = true) := ⟨by rw [HMK.out]; exact mkNodeE kt⟩
          obtain ⟨i0, ri1, ri2, ri3, ri4⟩ := info_partsB info_mkNodeB
          have RI := Bx.mk (And.intro ri1 (And.intro ri2 (And.intro ri3 ri4)))
          have BQ := Bx.mk (show base ≤ (wq.alloc (.cells (mkNode kt) 130)).heap.size by have h1 := HBS.out; have h2 := KK.out.size; have h3 := K1.out.size; have h4 := LP.out.keep.size; have h5 := hb.size; simp; omega)
          clear hb ri1 ri2 ri3 ri4 c2 f1
          go_wp2_with (first | (guard_target =~ wpList _ _ _ (⟨some 32, _, _, _, _, _⟩ :: _) _ _; refine wpList_run_c (by simp [Region.wanted]) _ (run_bs_mkNode wq (.tmp 31) rfl kt rfl) ?_) | (at_builtin; refine wpList_append_apw _ rfl _ _ 83 rfl base 130 i0 (.agg zeros34) 34 48 Tryz.underlying83 RI.out.1 RI.out.2.1 RI.out.2.2.1 RI.out.2.2.2 rfl (by decide) (.slice a4 (nt + k) c4) (nt + k) (marks MK (nt + k)) rfl LA.out.long ⟨wq.heap.size, 0, none⟩ 1 1 MK rfl MKL.out NEWS.out ONE.out (by have := NT.out.1; have := KL.out; unfold maxLen; omega) (by have := NT.out.1; have := KL.out; omega) BQ.out ?_; intro lv2 w2 happ; have APP := Bx.mk happ; clear happ))
          go_roundw
          case rel => exact ⟨k + 1, KL.out, (by rw [wrap_succB k (by have := KL.out; omega)]), LA.out.step MKL.out (fun j hj => Nat.lt_of_lt_of_le (OLT.out j hj) (by have := K1.out.size; have := HH2.out; omega)) APP.out⟩
          case measure => rw [wrap_succB k (by have := KL.out; omega)]; have := KL.out; simp [intOf]; omega
        · have KE : k = 70 := by omega
          have f1 : ¬ (k : Int) < 70 := by omega
          have f2 : (t : Int) < (m : Int) := by have := TL.out; omega
          have kp : Keep (fun j => (V t).ownBlock = some j) wo wr := by rw [HV.out, ← HNT.out]; exact (Keep.of_below K1.out (fun j => (Value.slice va nt vc).ownBlock = some j)).trans LP.out.keep (fun _ _ h => h)
          have hB5 : BkL 8 128 130 34 base wr b n l m V N (fun i => marks (mkNode (Kn i)).toList (N i)) G' Kn := BB.out.turn TL.out kp (fun _ _ => rfl) (by
            have h := LP.out.short
            rw [HMK.out, HKT.out] at h
            rw [HV.out, ← HNT.out]; exact h)
          have c6 : wr.cell? ⟨b, 12, none⟩ = some (.slice (some ⟨gl, 0, none⟩) m lc) := by rw [← HS.out]; exact er_cellAt hB5.bk.hb 12 _ rfl
          have hro := hB5.row
          rw [HS.out] at hro
          obtain ⟨g2, e2, -, hrg⟩ := hd_range hro TL.out
          cases e2
          have c1 : wr.cell? ⟨gl, t * 3 + 1, none⟩ = some (G' t) := hrg 1 _ rfl
          obtain ⟨cur, hG⟩ := rowG_of hro
          have f3 := frozenC hG.hb (t * 3 + 1)
          have B5 := Bx.mk hB5; have KP := Bx.mk kp; have KE2 := Bx.mk KE
          clear hB5 hro hrg hG kp KE hlt hk c2
          go_wp2_with fail
          go_roundw
          case rel =>
            have glw := LL.out gl (by rw [HS.out]; rfl)
            have low : ∀ j, (Value.slice a4 (nt + k) c4).ownBlock = some j → (V t).ownBlock = some j ∨ W1.heap.size ≤ j := fun j hj => by
              rcases LP.out.lies with ⟨g, cap, h1, h2⟩ | ⟨_, h2⟩ | h2
              · rw [HV.out, ← HNT.out, h1]; rw [h2] at hj; exact .inl hj
              · rw [HV.out, ← HNT.out, ← h2]; exact .inl hj
              · exact .inr (h2 j hj)
            have hsz : w.heap.size ≤ W1.heap.size := Nat.le_trans KK.out.size K1.out.size
            have ngl : ∀ i, i < m → ∀ j, ((V i).ownBlock = some j ∨ w.heap.size ≤ j) → j ≠ gl := fun i hi j hj e => by
              subst e
              rcases hj with hj | hj
              · exact (BB.out.nb i hi j hj).2 (by rw [HS.out]; rfl)
              · omega
            refine ⟨t + 1, updG G' t (.slice a4 (nt + k) c4), TL.out, (by rw [wrap_succB t (by have := TL.out; have := MB.out; omega)]), B5.out.lay HS.out TL.out, fun i hi => ?_, ?_⟩
            · unfold updG
              by_cases e : i = t
              · subst e
                rw [if_pos rfl]
                refine ⟨?_, fun j hj => (low j hj).imp id (fun h => Nat.le_trans hsz h)⟩
                have h := LP.out.long
                rw [HMK.out, HKT.out, KE2.out, HNT.out] at h
                rw [KE2.out, HNT.out]
                refine ownsRow_setCell_ne h _ _ (fun j hj => ngl i TL.out j ?_)
                exact (low j (by rw [KE2.out, HNT.out]; exact hj)).imp id (fun h => Nat.le_trans hsz h)
              · rw [if_neg e]
                have hit : i < t := by omega
                obtain ⟨h1, h2⟩ := GG.out i hit
                refine ⟨ownsRow_setCell_ne (ownsRow_keep' h1 fun j hj => KP.out.block j (ownsRow_lt h1 j hj) (fun e3 => ?_)) _ _ (fun j hj => ngl i (Nat.lt_trans hit TL.out) j (h2 j hj)), h2⟩
                rcases h2 j hj with h3 | h3
                · exact BB.out.sep i (Nat.lt_trans hit TL.out) t TL.out e j h3 e3
                · have := VL.out t TL.out j e3; omega
            · refine (KK.out.trans (KP.out.mono (S' := fun k => (∃ i, i < m ∧ (V i).ownBlock = some k) ∨ (l 8).ownBlock = some k) (fun j _ hj => .inl ⟨t, TL.out, hj⟩)) (fun _ _ h => h)).trans ((Keep.setCell wr ⟨gl, t * 3 + 1, none⟩ _).mono (S' := fun k => (∃ i, i < m ∧ (V i).ownBlock = some k) ∨ (l 8).ownBlock = some k) (fun j _ hj => .inr (by rw [HS.out, hj]; rfl))) (fun _ _ h => h)
          case measure => rw [wrap_succB t (by have := TL.out; have := MB.out; omega)]; have := TL.out; simp [intOf]; omega
    · obtain rfl : t = m := by omega
      clear ht hlt
      go_wp2_with fail
      go_end0
      exact ⟨rfl, G', BB.out, fun i hi => GG.out i hi, KK.out⟩
end Go.Proofs.YtbhcaalelfaceaaGreatDoor
end
section
namespace Go.Proofs.YtbhcaalelfaceaaGreatDoor
set_option maxRecDepth 100000
open Go.RowKit
set_option maxHeartbeats 3200000 in
theorem lookNode_any (base : Nat) (w : World) (b n : Nat) (l : Nat → Value) (m : Nat) (V : Nat → Value) (N : Nat → Nat) (G : Nat → Value) (Kn : Nat → Nat) (h : BkL 8 128 130 34 base w b n l m V N (fun i => marks (mkNode (Kn i)).toList (N i)) G Kn)
    (hg : ∀ i, i < m → w.ownsRow base 130 34 (G i) (N i + 70) (marks (mkNode (Kn i)).toList (N i + 70))) (hm : m ≤ 100000000) (hN : ∀ i, i < m → N i ≤ 100000000 ∧ Kn i ≤ 100000000) :
    Calls Tryz.prog 61 #[.pointer (some ⟨b, 4, none⟩)] w fun e w' => e = .returned (.bool true) ∧ Below w.heap.size w w' := by
  have BB := Bx.mk h; have MB := Bx.mk hm; have NB := Bx.mk hN; have GG := Bx.mk hg
  obtain ⟨la, lc, hs, -, -, -⟩ := own_shapeK h.row
  have HS := Bx.mk hs
  have CJ := Bx.mk (show w.cell? ⟨b, 12, none⟩ = some (.slice la m lc) by rw [← hs]; exact er_cellAt h.bk.hb 12 _ rfl)
  clear h hm hN hg hs
  go_enter Tryz.func61, Tryz.ntmps61
  go_wp2_with fail
  go_loopw [3] (fun iv wr => ∃ t : Nat, t ≤ m ∧ iv = .int .i64 (t : Int) ∧ Below w.heap.size w wr) (fun iv _ => m - (intOf iv).toNat)
  case atStart => exact ⟨0, Nat.zero_le _, rfl, Below.refl _ _⟩
  case round =>
    obtain ⟨t, ht, rfl, hb⟩ := hrel
    obtain ⟨wo, rfl⟩ : ∃ wo, wo = wr := ⟨_, rfl⟩
    have BW := Bx.mk hb
    have cJ := (hb.cell (block_lt_of_cell CJ.out)).trans CJ.out
    clear hb
    by_cases hlt : t < m
    · have hro := BB.out.row
      rw [HS.out] at hro
      obtain ⟨gl, rfl, hgl, hrg⟩ := hd_range hro hlt
      obtain ⟨va, vc, hv, -, -, -⟩ := own_shapeK (BB.out.li t hlt)
      obtain ⟨ga, gc, hgs, -, -, -⟩ := own_shapeK (GG.out t hlt)
      have hli := BB.out.li t hlt
      have hlo := GG.out t hlt
      rw [hv] at hli
      rw [hgs] at hlo
      obtain ⟨nt, hnt⟩ : ∃ nt, nt = N t := ⟨_, rfl⟩
      obtain ⟨kt, hkt⟩ : ∃ kt, kt = Kn t := ⟨_, rfl⟩
      rw [hv, hgs, ← hnt, ← hkt] at hrg
      rw [← hnt, ← hkt] at hli hlo
      have NT := Bx.mk (show nt ≤ 100000000 ∧ kt ≤ 100000000 by rw [hnt, hkt]; exact NB.out t hlt)
      obtain ⟨qt, hqt⟩ : ∃ qt, qt = nt + 70 := ⟨_, rfl⟩
      rw [← hqt] at hrg hlo
      have RG := Bx.mk (rangeB hrg hgl BW.out); have TL := Bx.mk hlt; have LI := Bx.mk hli; have LO := Bx.mk hlo; have QT := Bx.mk hqt
      have f1 : (t : Int) < (m : Int) := by omega
      have f2b : wrap64 ((nt : Int) + 70) = (qt : Int) := by have := NT.out.1; unfold wrap64; omega
      clear hro hgl hrg hv hnt hkt hlt ht hli hlo hgs hqt
      go_upto_region 5 with (first
        | (guard_target =~ wpList _ _ _ (⟨some 21, _, _, _, _, _⟩ :: _) _ _; refine wpList_load_mid rfl 128 (.tmp 20) rfl gl (t * 3) rfl _ _ RG.out Tryz.underlying128 rfl (by kernel_rfl) ?_)
        | (guard_target =~ wpList _ _ _ (⟨none, _, _, _, _, _⟩ :: _) _ _; refine wpList_store_row rfl 128 (.tmp 4) (.tmp 21) rfl wo.heap.size #[.slice va nt vc, .slice ga qt gc, .int .i64 (kt : Int)] rfl rfl _ #[.slice none 0 0, .slice none 0 0, .int .i64 0] (heap_alloc_new _ _) (by kernel_rfl) rfl (by simp [Value.oneCell']) ?_; rw [setRow_alloc_new _ _ _ _ rfl]))
      have h1 := er_al (Below.refl wo.heap.size wo) (.cells #[.slice va nt vc, .slice ga qt gc, .int .i64 (kt : Int)] 128)
      have h2 := heap_alloc_new wo (.cells #[.slice va nt vc, .slice ga qt gc, .int .i64 (kt : Int)] 128)
      generalize wo.alloc (.cells #[.slice va nt vc, .slice ga qt gc, .int .i64 (kt : Int)] 128) = W1 at h1 h2 ⊢
      obtain ⟨H, hH⟩ : ∃ H, H = wo.heap.size := ⟨_, rfl⟩
      rw [← hH] at h2 ⊢
      have K1 := Bx.mk (BW.out.trans (h1.mono BW.out.size)); have H1 := Bx.mk h2
      have e0 := er_cellAt h2 0 _ rfl; have e1 := er_cellAt h2 1 _ rfl
      clear h1 h2 hH cJ f1
      go_wp2_with fail
      clear e0 e1 f2b
      go_loopw [5] (fun kv wq => ∃ k : Nat, k ≤ qt ∧ kv = .int .i64 (k : Int) ∧ Below W1.heap.size W1 wq) (fun kv _ => qt - (intOf kv).toNat)
      case atStart => exact ⟨0, Nat.zero_le _, rfl, Below.refl _ _⟩
      case round =>
        obtain ⟨k, hk, rfl, hb⟩ := hrel
        have BQ := Bx.mk hb
        have hh := (hb.block H (Array.getElem?_eq_some_iff.1 H1.out).1).trans H1.out
        have c0 := er_cellAt hh 0 _ rfl; have c1 := er_cellAt hh 1 _ rfl; have c2 := er_cellAt hh 2 _ rfl
        have HL := (Array.getElem?_eq_some_iff.1 hh).1
        clear hb hh
        by_cases hlt : k < qt
        · have KL := Bx.mk hlt
          obtain ⟨g2, rfl, hg2, hr2⟩ := own_mark LO.out (mkNodeL kt) hlt
          have hrr := rangeB (rangeB hr2 hg2 K1.out) (Nat.lt_of_lt_of_le hg2 K1.out.size) BQ.out
          have hgl := Nat.lt_of_lt_of_le (Nat.lt_of_lt_of_le hg2 K1.out.size) BQ.out.size
          have HR1 : Bx (∀ u, BlwC wr.heap.size wr u → u.rangeAt g2 (k * 34) (mkNode kt).toList) := ⟨fun u ⟨u', hu⟩ => by subst hu; exact rangeB hrr hgl u'.h⟩
          have d0 : ∀ u : Blw wr.heap.size wr, u.w.cell? ⟨H, 0, none⟩ = some (.slice va nt vc) := fun u => (u.h.cell (p := ⟨H, 0, none⟩) HL).trans c0
          have d1 : ∀ u : Blw wr.heap.size wr, u.w.cell? ⟨H, 1, none⟩ = some (.slice (some ⟨g2, 0, none⟩) qt gc) := fun u => (u.h.cell (p := ⟨H, 1, none⟩) HL).trans c1
          have d2 : ∀ u : Blw wr.heap.size wr, u.w.cell? ⟨H, 2, none⟩ = some (.int .i64 (kt : Int)) := fun u => (u.h.cell (p := ⟨H, 2, none⟩) HL).trans c2
          have ne := Blw.ne wr.heap.size wr
          have CI : Bx (∀ u, Below wr.heap.size wr u → Calls Tryz.prog 106 #[.agg (mkNode kt), .int .i64 (kt : Int)] u fun e w' => e = .returned (.bool true) ∧ Below u.heap.size u w') := ⟨fun u _ => by exact isNode_any u kt NT.out.2⟩
          have f1 : (k : Int) < (qt : Int) := by omega
          clear hr2 hg2 hrr hgl HL hk hlt
          by_cases hkn : k < nt
          · obtain ⟨g3, rfl, hg3, hr3⟩ := own_mark LI.out (mkNodeL kt) hkn
            have hrr := rangeB (rangeB hr3 hg3 K1.out) (Nat.lt_of_lt_of_le hg3 K1.out.size) BQ.out
            have hgl := Nat.lt_of_lt_of_le (Nat.lt_of_lt_of_le hg3 K1.out.size) BQ.out.size
            have HR2 : Bx (∀ u, BlwC wr.heap.size wr u → u.rangeAt g3 (k * 34) (mkNode kt).toList) := ⟨fun u ⟨u', hu⟩ => by subst hu; exact rangeB hrr hgl u'.h⟩
            have f3 : (k : Int) < (nt : Int) := by omega
            clear hr3 hg3 hrr hgl hkn
            go_upto_region 10 with (fail)
            refine wp_region_quiet_c (C := fun w' => ∃ u : Blw wr.heap.size wr, w' = u.w) (by kernel_rfl) (by kernel_rfl) ⟨⟨_, (Below.refl _ _).drew⟩, rfl⟩ ?_
            iterate 4 go_big_quiet_step (fail)
            go_big_quiet_want
            refine quiet_load_midB 130 (.tmp 40) rfl g2 (k * 34) rfl (mkNode kt).toList _ HR1.out Tryz.underlying130 rfl (by rw [mkNodeL]; kernel_rfl) ?_
            go_big_quiet_on
            simp only [Act.put, List.setIfInBounds_toArray, List.set_cons_succ, List.set_cons_zero, Array.toArray_toList]
            iterate 2 go_big_quiet_step (fail)
            go_big_quiet_step (exact Calls.blw (Nat.le_refl _) CI.out)
            iterate 11 go_big_quiet_step (fail)
            go_big_quiet_step (fail)
            go_big_quiet_want
            refine quiet_load_midB 130 (.tmp 56) rfl g3 (k * 34) rfl (mkNode kt).toList _ HR2.out Tryz.underlying130 rfl (by rw [mkNodeL]; kernel_rfl) ?_
            go_big_quiet_on
            simp only [Act.put, List.setIfInBounds_toArray, List.set_cons_succ, List.set_cons_zero, Array.toArray_toList]
            iterate 2 go_big_quiet_step (fail)
            go_big_quiet_step (exact Calls.blw (Nat.le_refl _) CI.out)
            iterate 3 go_big_quiet_step (fail)
            refine wpQuiet_nil ?_
            rintro _ ⟨u, rfl⟩
            have BU := Bx.mk (BQ.out.trans (u.h.mono BQ.out.size))
            generalize u.w = W5 at BU ⊢
            clear d0 d1 d2 ne f1 f3
            go_wp2_with fail
            go_roundw
            case rel => exact ⟨k + 1, KL.out, (by rw [wrap_succB k (by have := KL.out; have := NT.out.1; have := QT.out; omega)]), BU.out⟩
            case measure => rw [wrap_succB k (by have := KL.out; have := NT.out.1; have := QT.out; omega)]; have := KL.out; simp [intOf]; omega
          · have f3 : ¬ (k : Int) < (nt : Int) := by omega
            clear hkn
            go_upto_region 10 with (fail)
            refine wp_region_quiet_c (C := fun w' => ∃ u : Blw wr.heap.size wr, w' = u.w) (by kernel_rfl) (by kernel_rfl) ⟨⟨_, (Below.refl _ _).drew⟩, rfl⟩ ?_
            iterate 4 go_big_quiet_step (fail)
            go_big_quiet_want
            refine quiet_load_midB 130 (.tmp 40) rfl g2 (k * 34) rfl (mkNode kt).toList _ HR1.out Tryz.underlying130 rfl (by rw [mkNodeL]; kernel_rfl) ?_
            go_big_quiet_on
            simp only [Act.put, List.setIfInBounds_toArray, List.set_cons_succ, List.set_cons_zero, Array.toArray_toList]
            iterate 2 go_big_quiet_step (fail)
            go_big_quiet_step (exact Calls.blw (Nat.le_refl _) CI.out)
            iterate 19 go_big_quiet_step (fail)
            refine wpQuiet_nil ?_
            rintro _ ⟨u, rfl⟩
            have BU := Bx.mk (BQ.out.trans (u.h.mono BQ.out.size))
            generalize u.w = W5 at BU ⊢
            clear d0 d1 d2 ne f1 f3
            go_wp2_with fail
            go_roundw
            case rel => exact ⟨k + 1, KL.out, (by rw [wrap_succB k (by have := KL.out; have := NT.out.1; have := QT.out; omega)]), BU.out⟩
            case measure => rw [wrap_succB k (by have := KL.out; have := NT.out.1; have := QT.out; omega)]; have := KL.out; simp [intOf]; omega
        · have f1 : ¬ (k : Int) < (qt : Int) := by omega
          clear hlt hk c0 c2 HL
          go_wp2_with fail
          go_roundw
          case rel => exact ⟨t + 1, TL.out, (by rw [wrap_succB t (by have := TL.out; have := MB.out; omega)]), K1.out.trans (BQ.out.mono K1.out.size)⟩
          case measure => rw [wrap_succB t (by have := TL.out; have := MB.out; omega)]; have := TL.out; simp [intOf]; omega
    · obtain rfl : t = m := by omega
      have f1 : ¬ (t : Int) < (t : Int) := by omega
      clear ht hlt
      go_wp2_with fail
      go_ret
      exact ⟨rfl, BW.out⟩
end Go.Proofs.YtbhcaalelfaceaaGreatDoor
end
section
namespace Go.Proofs.YtbhcaalelfaceaaGreatDoor
set_option maxRecDepth 100000
open Go.RowKit
/-- what is held of one list: itself, the longer one, its number -/
def hdcNode (x : Value × Value × Int) : List Value := [x.1, x.2.1, .int .i64 x.2.2]
theorem built_heldNode (va : Option Addr) (vn vc : Nat) (n : Int) : Tryz.prog.built 128 [(0, .slice va vn vc), (2, .int .i64 n)] = some #[.slice va vn vc, .slice none 0 0, .int .i64 n] := by kernel_rfl
theorem under_heldNode : Tryz.prog.underlying 35 = some (.slice 128) := by kernel_rfl
theorem info_heldNode : (Tryz.prog.info? 128).map (fun i => (i.zero, i.size, i.bytes)) = some (some (.agg #[.slice none 0 0, .slice none 0 0, .int .i64 0]), 3, 56) := by kernel_rfl
theorem run_bs_heldNode {o : Oper} {a : Act} (w : World) (x : Operand) (ho : o.op = .buildSlice 35 1 #[(0, x)]) (va : Option Addr) (vn vc : Nat) (n : Int) (hx : a.eval x = .agg #[.slice va vn vc, .slice none 0 0, .int .i64 n]) :
    (execOp a.eval o).run Tryz.prog w = .ok (.value (.slice (some ⟨w.heap.size, 0, none⟩) 1 1)) (w.alloc (.cells #[.slice va vn vc, .slice none 0 0, .int .i64 n] 128)) := by
  have hr : (Instr.buildSlice 35 1 #[(0, .agg #[.slice va vn vc, .slice none 0 0, .int .i64 n])]).run Tryz.prog w = .ok (.slice (some ⟨w.heap.size, 0, none⟩) 1 1) (w.alloc (.cells #[.slice va vn vc, .slice none 0 0, .int .i64 n] 128)) := by kernel_rfl
  unfold execOp
  simp only [ho, List.map_toArray, List.map_cons, List.map_nil, hx, Sem.run_bind, hr, Result.andThen_ok, Sem.run_pure]
def StKNode (own : Nat → Option Nat) (w : World) (b n base m : Nat) (l : Nat → Value) (la : Option Addr) (lc : Nat) (xs : List Value) (va : Option Addr) (vn vc B2 : Nat) : Prop :=
  ∃ s1, OutV own w b 15 47 #[l 17, l 18, l 19, l 20, .int .i64 ((n + 1 : Nat) : Int), l 1, l 2, l 3, l 4, l 5, l 6, l 7, s1, l 9, l 10, l 11, l 12, l 13, l 14, l 15, l 16] ∧ GrownW own w 12 base 128 3 s1 (m + 1) (xs ++ (#[.slice va vn vc, .slice none 0 0, .int .i64 ((n + 1 : Nat) : Int)] : Array Value).toList) (.slice la m lc) B2
def VKNode (b n base m : Nat) (l : Nat → Value) (la : Option Addr) (lc : Nat) (xs : List Value) (va : Option Addr) (vn vc B2 : Nat) (oi : Nat) (v : Value) (own : Nat → Option Nat) (w : World) : Prop :=
  match oi with
  | 0 => v = .pointer (some ⟨b, 4, none⟩)
  | 1 => v = .pointer (some ⟨b, 4, none⟩)
  | 2 => v = .pointer (some ⟨b, 4, none⟩)
  | 3 => v = .pointer (some ⟨b, 12, none⟩)
  | 4 => v = .slice la m lc
  | 5 => v = .slice va vn vc
  | 6 => v = .pointer (some ⟨b, 4, none⟩)
  | 7 => v = .pointer (some ⟨b, 4, none⟩)
  | 8 => v = .pointer (some ⟨b, 4, none⟩)
  | 9 => v = .int .i64 ((n + 1 : Nat) : Int)
  | 10 => v = .agg #[.slice va vn vc, .slice none 0 0, .int .i64 ((n + 1 : Nat) : Int)]
  | 11 => BuiltV own w v 1 128 #[.slice va vn vc, .slice none 0 0, .int .i64 ((n + 1 : Nat) : Int)]
  | 12 => GrownW own w 12 base 128 3 v (m + 1) (xs ++ (#[.slice va vn vc, .slice none 0 0, .int .i64 ((n + 1 : Nat) : Int)] : Array Value).toList) (.slice la m lc) B2
  | 13 => v = .pointer (some ⟨b, 4, none⟩)
  | 14 => v = .pointer (some ⟨b, 12, none⟩)
  | 15 => StKNode own w b n base m l la lc xs va vn vc B2
  | _ => True
def VKNodemk : Nat → Option Nat := fun _ => none
theorem VKNode_mono (b n base m : Nat) (l : Nat → Value) (la : Option Addr) (lc : Nat) (xs : List Value) (va : Option Addr) (vn vc B2 : Nat) (oi oj : Nat) (v : Value) (own : Nat → Option Nat) (w : World) (own' : Nat → Option Nat) (w' : World) (hij : oi ≠ oj)  (hx0 : oi = 12 → oj = 15 → False) (h : VKNode b n base m l la lc xs va vn vc B2 oj v own w) (r : Rel VKNodemk oi own w own' w') : VKNode b n base m l la lc xs va vn vc B2 oj v own' w' := by
  unfold VKNode at h ⊢
  split at h
  · exact h
  · exact h
  · exact h
  · exact h
  · exact h
  · exact h
  · exact h
  · exact h
  · exact h
  · exact h
  · exact h
  · exact h.stable r
  · exact h.stable r hij
  · exact h
  · exact h
  · obtain ⟨s1, h1, h2⟩ := h; exact ⟨s1, h1.stable r hij, h2.stable r (fun e => hx0 e rfl)⟩
  · trivial

set_option maxHeartbeats 1600000 in
theorem keepNode_any (base : Nat) (w : World) (b n : Nat) (l : Nat → Value) (m : Nat) (xs : List Value) (hB : BkP w b (n : Int) l) (hO : w.ownsRow base 128 3 (l 8) m xs) (hm : m ≤ 100000000) (hn : n ≤ 100000000) (hne : ∀ j, (l 8).ownBlock = some j → j ≠ b) (hbase : base ≤ w.heap.size) (va : Option Addr) (vn vc : Nat) :
    Calls Tryz.prog 117 #[.pointer (some ⟨b, 4, none⟩), .slice va vn vc] w fun e w' => e = .returned (.tuple #[]) ∧ ∃ x, BkP w' b ((n + 1 : Nat) : Int) (updK l 8 x) ∧ w'.ownsRow base 128 3 x (m + 1) (xs ++ hdcNode (.slice va vn vc, .slice none 0 0, ((n + 1 : Nat) : Int))) ∧ Keep (fun k => k = b ∨ (l 8).ownBlock = some k) w w' ∧ ∀ k, x.ownBlock = some k → k ≠ b ∧ ((l 8).ownBlock = some k ∨ w.heap.size ≤ k) := by
  obtain ⟨la, lc, hs, -, -, -⟩ := own_shapeK hO
  have c0 := er_cellAt hB.hb 4 _ rfl
  have f0 : w.frozen? ⟨b, 4, none⟩ = false := by simp [World.frozen?, hB.hb]
  have hlt := (Array.getElem?_eq_some_iff.1 hB.hb).1
  rw [hs] at hO hne
  have hx : (w.setCell ⟨b, 4, none⟩ (.int .i64 ((n + 1 : Nat) : Int))).heap[b]? = some (.cells #[l 17, l 18, l 19, l 20, .int .i64 ((n + 1 : Nat) : Int), l 1, l 2, l 3, l 4, l 5, l 6, l 7, (.slice la m lc), l 9, l 10, l 11, l 12, l 13, l 14, l 15, l 16] 47 (0, 0)) := by
    have h := hB.hb
    rw [hs] at h
    simp [World.setCell, Array.getElem?_modify, h]
  have ho := ownsRow_setCell_ne hO ⟨b, 4, none⟩ (.int .i64 ((n + 1 : Nat) : Int)) (fun j hj e => hne j hj e)
  have hk := Keep.setCell w ⟨b, 4, none⟩ (.int .i64 ((n + 1 : Nat) : Int))
  have fw : wrap64 ((n : Int) + 1) = ((n + 1 : Nat) : Int) := by unfold wrap64; omega
  have HS := Bx.mk hs; have HN := Bx.mk hn; have HM := Bx.mk hm; have RNB := Bx.mk hne; have OX0 := Bx.mk ho; have XB0 := Bx.mk hx; have KX0 := Bx.mk hk; have FW := Bx.mk fw; have BS := Bx.mk hbase; have WL := Bx.mk hlt; have OL := Bx.mk (fun j (hj : (Value.slice la m lc).ownBlock = some j) => ownsRow_lt hO j hj)
  clear hB hO hm hn hne hs hx ho hk hbase hlt
  go_enter Tryz.func117, Tryz.ntmps117
  go_upto_region 1 with (fail)
  change Code.wp _ _ _ _ (w.setCell ⟨b, 4, none⟩ (.int .i64 ((n + 1 : Nat) : Int)))
  clear c0 f0 fw
  generalize w.setCell ⟨b, 4, none⟩ (.int .i64 ((n + 1 : Nat) : Int)) = X at OX0 XB0 KX0 ⊢
  have XBX := XB0; have OX := OX0
  have XBL := Bx.mk (Array.getElem?_eq_some_iff.1 XBX.out).1
  have HTP := Bx.mk (fun k' (hk' : X.heap.size ≤ k') => ownBK_none (b := b) (v := .slice la m lc) (i := 15) (j := 12) (k := k') (fun e => by have := OL.out _ e; have := KX0.out.size; omega) (by have := XBL.out; omega))
  obtain ⟨j0, hj0, hy0, hy1, hy2⟩ := info_partsB info_heldNode
  have RJ := Bx.mk (And.intro hj0 (And.intro hy0 (And.intro hy1 hy2)))
  have Q1 := Bx.mk (show m + 1 ≤ maxLen by have := HM.out; unfold maxLen; omega); have Q2 := Bx.mk (show (m + 1) * 56 ≤ 140737488355328 by have := HM.out; omega)
  have QB := Bx.mk (show base ≤ X.heap.size from Nat.le_trans BS.out KX0.out.size)
  clear hj0 hy0 hy1 hy2
  refine wp_region_own8 (n := 26) VKNodemk (ownBK b (.slice la m lc) 15 12) (VKNode b n base m l la lc xs va vn vc (X.heap.size)) (by kernel_rfl) (by kernel_rfl) rfl (fun k hk => HTP.out k hk) (fun j i hj _ => by cases hj) ?_ ?_ ?_
  · exact fun oi oj v own w own' w' hij hnd h r => VKNode_mono b n base m l la lc xs va vn vc (X.heap.size) oi oj v own w own' w' hij (by rintro rfl rfl; exact Bool.noConfusion (hnd.symm.trans (show depB _ 15 12 = true by kernel_rfl))) h r
  · intro oi o hi f u own hsame hsn hfr hlate hkeep8 hdep
    have hkeep := hkeep8 _ (.inl rfl)
    match oi, hi with
    | 0, hi =>
      cases (show some _ = some o from hi)
      have e0 : f.tmps.getD 0 undef = .pointer (some ⟨b, 4, none⟩) := hsame.slot 0 (fun i o h => invB2_not 0 (by kernel_rfl) h)
      clear hdep hsame hi hlate hfr hkeep
      exact .inl ⟨wanted_none rfl, showsO_move hsn rfl _ rfl e0⟩
    | 1, hi =>
      cases (show some _ = some o from hi)
      have e0 : f.tmps.getD 0 undef = .pointer (some ⟨b, 4, none⟩) := hsame.slot 0 (fun i o h => invB2_not 0 (by kernel_rfl) h)
      clear hdep hsame hi hlate hfr hkeep
      exact .inl ⟨wanted_none rfl, showsO_move hsn rfl _ rfl e0⟩
    | 2, hi =>
      cases (show some _ = some o from hi)
      have e12 : (f.tmps.getD 12 undef) = .pointer (some ⟨b, 4, none⟩) := depO (V := (VKNode b n base m l la lc xs va vn vc (X.heap.size))) hdep 1 12 (by kernel_rfl) (by kernel_rfl)
      clear hdep hsame hi hlate hfr hkeep
      exact .inl ⟨wanted_none rfl, showsO_pure hsn rfl (.pointer (some ⟨b, 4, none⟩)) (by simp only [execOp, Act.eval]; go_simp) rfl⟩
    | 3, hi =>
      cases (show some _ = some o from hi)
      have e13 : (f.tmps.getD 13 undef) = .pointer (some ⟨b, 4, none⟩) := depO (V := (VKNode b n base m l la lc xs va vn vc (X.heap.size))) hdep 2 13 (by kernel_rfl) (by kernel_rfl)
      clear hdep hsame hi hlate hfr hkeep
      exact .inl ⟨wanted_none rfl, showsO_pure hsn rfl (.pointer (some ⟨b, 12, none⟩)) (by simp only [execOp, Act.eval]; go_simp) rfl⟩
    | 4, hi =>
      cases (show some _ = some o from hi)
      have e14 : (f.tmps.getD 14 undef) = .pointer (some ⟨b, 12, none⟩) := depO (V := (VKNode b n base m l la lc xs va vn vc (X.heap.size))) hdep 3 14 (by kernel_rfl) (by kernel_rfl)
      clear hdep hsame hi hlate hfr hkeep
      have cc8 := er_cellAt ((hkeep8 15 (.inr (by kernel_rfl)) b XBL.out (ownBK_one _ _ _ _)).trans XBX.out) 12 _ rfl
      exact .inl ⟨wanted_none rfl, showsO_pure hsn rfl (.slice la m lc) (by simp only [execOp, Act.eval]; go_simp) rfl⟩
    | 5, hi =>
      cases (show some _ = some o from hi)
      have e1 : f.tmps.getD 1 undef = .slice va vn vc := hsame.slot 1 (fun i o h => invB2_not 1 (by kernel_rfl) h)
      clear hdep hsame hi hlate hfr hkeep
      exact .inl ⟨wanted_none rfl, showsO_move hsn rfl _ rfl e1⟩
    | 6, hi =>
      cases (show some _ = some o from hi)
      have e0 : f.tmps.getD 0 undef = .pointer (some ⟨b, 4, none⟩) := hsame.slot 0 (fun i o h => invB2_not 0 (by kernel_rfl) h)
      clear hdep hsame hi hlate hfr hkeep
      exact .inl ⟨wanted_none rfl, showsO_move hsn rfl _ rfl e0⟩
    | 7, hi =>
      cases (show some _ = some o from hi)
      have e17 : (f.tmps.getD 17 undef) = .pointer (some ⟨b, 4, none⟩) := depO (V := (VKNode b n base m l la lc xs va vn vc (X.heap.size))) hdep 6 17 (by kernel_rfl) (by kernel_rfl)
      clear hdep hsame hi hlate hfr hkeep
      exact .inl ⟨wanted_none rfl, showsO_pure hsn rfl (.pointer (some ⟨b, 4, none⟩)) (by simp only [execOp, Act.eval]; go_simp) rfl⟩
    | 8, hi =>
      cases (show some _ = some o from hi)
      have e18 : (f.tmps.getD 18 undef) = .pointer (some ⟨b, 4, none⟩) := depO (V := (VKNode b n base m l la lc xs va vn vc (X.heap.size))) hdep 7 18 (by kernel_rfl) (by kernel_rfl)
      clear hdep hsame hi hlate hfr hkeep
      exact .inl ⟨wanted_none rfl, showsO_pure hsn rfl (.pointer (some ⟨b, 4, none⟩)) (by simp only [execOp, Act.eval]; go_simp) rfl⟩
    | 9, hi =>
      cases (show some _ = some o from hi)
      have e19 : (f.tmps.getD 19 undef) = .pointer (some ⟨b, 4, none⟩) := depO (V := (VKNode b n base m l la lc xs va vn vc (X.heap.size))) hdep 8 19 (by kernel_rfl) (by kernel_rfl)
      clear hdep hsame hi hlate hfr hkeep
      have cc0 := er_cellAt ((hkeep8 15 (.inr (by kernel_rfl)) b XBL.out (ownBK_one _ _ _ _)).trans XBX.out) 4 _ rfl
      exact .inl ⟨wanted_none rfl, showsO_pure hsn rfl (.int .i64 ((n + 1 : Nat) : Int)) (by simp only [execOp, Act.eval]; go_simp) rfl⟩
    | 10, hi =>
      cases (show some _ = some o from hi)
      have e16 : (f.tmps.getD 16 undef) = .slice va vn vc := depO (V := (VKNode b n base m l la lc xs va vn vc (X.heap.size))) hdep 5 16 (by kernel_rfl) (by kernel_rfl)
      have e20 : (f.tmps.getD 20 undef) = .int .i64 ((n + 1 : Nat) : Int) := depO (V := (VKNode b n base m l la lc xs va vn vc (X.heap.size))) hdep 9 20 (by kernel_rfl) (by kernel_rfl)
      clear hdep hsame hi hlate hfr hkeep
      exact .inl ⟨wanted_none rfl, showsO_build hsn rfl 128 #[(0, .tmp 16), (2, .tmp 20)] rfl #[.slice va vn vc, .slice none 0 0, .int .i64 ((n + 1 : Nat) : Int)] (by simp only [List.map_toArray, List.map_cons, List.map_nil, Act.eval]; rw [e16, e20]; exact built_heldNode _ _ _ _) rfl⟩
    | 11, hi =>
      cases (show some _ = some o from hi)
      have e21 : (f.tmps.getD 21 undef) = .agg #[.slice va vn vc, .slice none 0 0, .int .i64 ((n + 1 : Nat) : Int)] := depO (V := (VKNode b n base m l la lc xs va vn vc (X.heap.size))) hdep 10 21 (by kernel_rfl) (by kernel_rfl)
      clear hdep hsame hi hlate hfr hkeep
      exact .inl ⟨wanted_none rfl, showsO_built hsn rfl 1 128 #[.slice va vn vc, .slice none 0 0, .int .i64 ((n + 1 : Nat) : Int)] (run_bs_heldNode u (.tmp 21) rfl _ _ _ _ e21) (fun h => h)⟩
    | 12, hi =>
      cases (show some _ = some o from hi)
      have e15 : (f.tmps.getD 15 undef) = .slice la m lc := depO (V := (VKNode b n base m l la lc xs va vn vc (X.heap.size))) hdep 4 15 (by kernel_rfl) (by kernel_rfl)
      have e22 : BuiltV own u (f.tmps.getD 22 undef) 1 128 #[.slice va vn vc, .slice none 0 0, .int .i64 ((n + 1 : Nat) : Int)] := depO (V := (VKNode b n base m l la lc xs va vn vc (X.heap.size))) hdep 11 22 (by kernel_rfl) (by kernel_rfl)
      clear hdep hsame hi hlate hfr
      exact .inl ⟨wanted_none rfl, showsO_appendW hsn hkeep rfl (.tmp 15) (.tmp 22) 35 rfl base 128 j0 (.agg #[.slice none 0 0, .slice none 0 0, .int .i64 0]) 3 56 under_heldNode RJ.out.1 RJ.out.2.1 RJ.out.2.2.1 RJ.out.2.2.2 rfl (by decide) (.slice la m lc) m xs e15 OX.out (fun j hj => ownBK_two hj (RNB.out j hj)) e22 rfl (by simp [Value.oneCell']) Q1.out Q2.out QB.out (fun _ _ _ h => h)⟩
    | 13, hi =>
      cases (show some _ = some o from hi)
      have e11 : (f.tmps.getD 11 undef) = .pointer (some ⟨b, 4, none⟩) := depO (V := (VKNode b n base m l la lc xs va vn vc (X.heap.size))) hdep 0 11 (by kernel_rfl) (by kernel_rfl)
      clear hdep hsame hi hlate hfr hkeep
      exact .inl ⟨wanted_none rfl, showsO_pure hsn rfl (.pointer (some ⟨b, 4, none⟩)) (by simp only [execOp, Act.eval]; go_simp) rfl⟩
    | 14, hi =>
      cases (show some _ = some o from hi)
      have e24 : (f.tmps.getD 24 undef) = .pointer (some ⟨b, 4, none⟩) := depO (V := (VKNode b n base m l la lc xs va vn vc (X.heap.size))) hdep 13 24 (by kernel_rfl) (by kernel_rfl)
      clear hdep hsame hi hlate hfr hkeep
      exact .inl ⟨wanted_none rfl, showsO_pure hsn rfl (.pointer (some ⟨b, 12, none⟩)) (by simp only [execOp, Act.eval]; go_simp) rfl⟩
    | 15, hi =>
      cases (show some _ = some o from hi)
      have e23 : GrownW own u 12 base 128 3 (f.tmps.getD 23 undef) (m + 1) (xs ++ (#[.slice va vn vc, .slice none 0 0, .int .i64 ((n + 1 : Nat) : Int)] : Array Value).toList) (.slice la m lc) (X.heap.size) := depO (V := (VKNode b n base m l la lc xs va vn vc (X.heap.size))) hdep 12 23 (by kernel_rfl) (by kernel_rfl)
      have e25 : (f.tmps.getD 25 undef) = .pointer (some ⟨b, 12, none⟩) := depO (V := (VKNode b n base m l la lc xs va vn vc (X.heap.size))) hdep 14 25 (by kernel_rfl) (by kernel_rfl)
      clear hdep hsame hi hlate hfr hkeep
      have hst := er_cellAt ((hkeep8 15 (.inl rfl) b XBL.out (ownBK_one _ _ _ _)).trans XBX.out) 12 _ rfl
      have hfr2 : u.frozen? ⟨b, 12, none⟩ = false := by simp [World.frozen?, ((hkeep8 15 (.inl rfl) b XBL.out (ownBK_one _ _ _ _)).trans XBX.out)]
      obtain ⟨a1, c1, ev, _, _, _⟩ := own_shapeK e23.1.1
      rw [ev] at e23
      have hob : own b = some 15 := (hsn.owns b XBL.out).trans (ownBK_one _ _ _ _)
      have HQ : ∀ {v}, GrownW own u 12 base 128 3 v (m + 1) (xs ++ (#[.slice va vn vc, .slice none 0 0, .int .i64 ((n + 1 : Nat) : Int)] : Array Value).toList) (.slice la m lc) (X.heap.size) → GrownW own u 12 base 128 3 v (m + 1) (xs ++ (#[.slice va vn vc, .slice none 0 0, .int .i64 ((n + 1 : Nat) : Int)] : Array Value).toList) (.slice la m lc) (X.heap.size) := fun h => h
      exact .inl ⟨wanted_none rfl, showsO_store_cell hsn hkeep8 rfl b 12 #[l 17, l 18, l 19, l 20, .int .i64 ((n + 1 : Nat) : Int), l 1, l 2, l 3, l 4, l 5, l 6, l 7, (.slice la m lc), l 9, l 10, l 11, l 12, l 13, l 14, l 15, l 16] 47 XBX.out (ownBK_one _ _ _ _) (.slice a1 (m + 1) c1) (by simp only [execOp, Act.eval]; go_simp) (fun h => ⟨_, h, grownW_setCellK (HQ e23) b 12 _ hob (by decide)⟩)⟩
    | n + 16, hi => exact absurd hi (by simp)
  · intro f u own hsame hsn hall
    have q11 : f.tmps.getD 11 undef = .pointer (some ⟨b, 4, none⟩) := finO (V := (VKNode b n base m l la lc xs va vn vc (X.heap.size))) hall 0 11 rfl
    have q12 : f.tmps.getD 12 undef = .pointer (some ⟨b, 4, none⟩) := finO (V := (VKNode b n base m l la lc xs va vn vc (X.heap.size))) hall 1 12 rfl
    have q13 : f.tmps.getD 13 undef = .pointer (some ⟨b, 4, none⟩) := finO (V := (VKNode b n base m l la lc xs va vn vc (X.heap.size))) hall 2 13 rfl
    have q14 : f.tmps.getD 14 undef = .pointer (some ⟨b, 12, none⟩) := finO (V := (VKNode b n base m l la lc xs va vn vc (X.heap.size))) hall 3 14 rfl
    have q15 : f.tmps.getD 15 undef = .slice la m lc := finO (V := (VKNode b n base m l la lc xs va vn vc (X.heap.size))) hall 4 15 rfl
    have q16 : f.tmps.getD 16 undef = .slice va vn vc := finO (V := (VKNode b n base m l la lc xs va vn vc (X.heap.size))) hall 5 16 rfl
    have q17 : f.tmps.getD 17 undef = .pointer (some ⟨b, 4, none⟩) := finO (V := (VKNode b n base m l la lc xs va vn vc (X.heap.size))) hall 6 17 rfl
    have q18 : f.tmps.getD 18 undef = .pointer (some ⟨b, 4, none⟩) := finO (V := (VKNode b n base m l la lc xs va vn vc (X.heap.size))) hall 7 18 rfl
    have q19 : f.tmps.getD 19 undef = .pointer (some ⟨b, 4, none⟩) := finO (V := (VKNode b n base m l la lc xs va vn vc (X.heap.size))) hall 8 19 rfl
    have q20 : f.tmps.getD 20 undef = .int .i64 ((n + 1 : Nat) : Int) := finO (V := (VKNode b n base m l la lc xs va vn vc (X.heap.size))) hall 9 20 rfl
    have q21 : f.tmps.getD 21 undef = .agg #[.slice va vn vc, .slice none 0 0, .int .i64 ((n + 1 : Nat) : Int)] := finO (V := (VKNode b n base m l la lc xs va vn vc (X.heap.size))) hall 10 21 rfl
    obtain ⟨g22, q22, o22, m22⟩ : BuiltV own u (f.tmps.getD 22 undef) 1 128 #[.slice va vn vc, .slice none 0 0, .int .i64 ((n + 1 : Nat) : Int)] := finO (V := (VKNode b n base m l la lc xs va vn vc (X.heap.size))) hall 11 22 rfl
    have m23 := finO (V := (VKNode b n base m l la lc xs va vn vc (X.heap.size))) hall 12 23 rfl
    obtain ⟨r23, q23⟩ : ∃ r, f.tmps.getD 23 undef = r := ⟨_, rfl⟩
    rw [q23] at m23
    have q24 : f.tmps.getD 24 undef = .pointer (some ⟨b, 4, none⟩) := finO (V := (VKNode b n base m l la lc xs va vn vc (X.heap.size))) hall 13 24 rfl
    have q25 : f.tmps.getD 25 undef = .pointer (some ⟨b, 12, none⟩) := finO (V := (VKNode b n base m l la lc xs va vn vc (X.heap.size))) hall 14 25 rfl
    obtain ⟨s1, ⟨ob, hbb⟩, ⟨gw, gf⟩, gz⟩ := finN (V := (VKNode b n base m l la lc xs va vn vc (X.heap.size))) hall 15 rfl
    obtain rfl := frame_eq hsame [(11, .pointer (some ⟨b, 4, none⟩)), (12, .pointer (some ⟨b, 4, none⟩)), (13, .pointer (some ⟨b, 4, none⟩)), (14, .pointer (some ⟨b, 12, none⟩)), (15, .slice la m lc), (16, .slice va vn vc), (17, .pointer (some ⟨b, 4, none⟩)), (18, .pointer (some ⟨b, 4, none⟩)), (19, .pointer (some ⟨b, 4, none⟩)), (20, .int .i64 ((n + 1 : Nat) : Int)), (21, .agg #[.slice va vn vc, .slice none 0 0, .int .i64 ((n + 1 : Nat) : Int)]), (22, .slice (some ⟨g22, 0, none⟩) 1 1), (23, r23), (24, .pointer (some ⟨b, 4, none⟩)), (25, .pointer (some ⟨b, 12, none⟩))] (by kernel_rfl) ⟨q11, q12, q13, q14, q15, q16, q17, q18, q19, q20, q21, q22, q23, q24, q25, trivial⟩
    clear hall hsame q11 q12 q13 q14 q15 q16 q17 q18 q19 q20 q21 q22 q23 q24 q25
    simp only [List.foldl, List.setIfInBounds_toArray, List.set_cons_succ, List.set_cons_zero]
    have kbr := hsn.keepBK
    have SNE := Bx.mk (fun j (hj : s1.ownBlock = some j) => (show j ≠ b by
      rintro rfl
      rcases gf j hj with h1 | h1 <;> rw [ob] at h1 <;> cases h1))
    have HBB := Bx.mk hbb; have GW := Bx.mk gw; have GZ := Bx.mk gz; have KBR := Bx.mk kbr
    clear hbb gw gz kbr gf ob hsn
    go_wp2_with fail
    go_end0
    refine ⟨rfl, s1, ⟨HBB.out⟩, GW.out, ?_, fun k hk => ⟨SNE.out k hk, ?_⟩⟩
    · rw [HS.out]
      exact (KX0.out.mono (S' := fun k => k = b ∨ (Value.slice la m lc).ownBlock = some k) (fun j _ h => .inl h)).trans KBR.out (fun _ _ h => h)
    · rw [HS.out]
      rcases GZ.out k hk with h1 | h1
      · exact .inl h1
      · exact .inr (Nat.le_trans KX0.out.size h1)
end Go.Proofs.YtbhcaalelfaceaaGreatDoor
end
section
namespace Go.Proofs.YtbhcaalelfaceaaGreatDoor
set_option maxRecDepth 100000
open Go.RowKit
set_option maxHeartbeats 6400000 in
theorem apartHN_any (base : Nat) (w : World) (b n : Nat) (l : Nat → Value) (m0 : Nat) (V0 : Nat → Value) (N0 : Nat → Nat) (X0 : Nat → List Value) (G0 : Nat → Value) (Kn0 : Nat → Nat) (m1 : Nat) (V1 : Nat → Value) (N1 : Nat → Nat) (X1 : Nat → List Value) (G1 : Nat → Value) (Kn1 : Nat → Nat) (h0 : BkL 5 114 66 32 base w b n l m0 V0 N0 X0 G0 Kn0) (h1 : BkL 8 128 130 34 base w b n l m1 V1 N1 X1 G1 Kn1) (hz : ∀ i, i ≤ 16 → i ≠ 5 → i ≠ 8 → l i = .slice none 0 0) (s01 : ∀ i, i < m0 → ∀ k, (V0 i).ownBlock = some k → (l 8).ownBlock ≠ some k ∧ ∀ j, j < m1 → (V1 j).ownBlock ≠ some k) (r01 : ∀ k, (l 5).ownBlock = some k → (l 8).ownBlock ≠ some k) (s10 : ∀ i, i < m1 → ∀ k, (V1 i).ownBlock = some k → (l 5).ownBlock ≠ some k ∧ ∀ j, j < m0 → (V0 j).ownBlock ≠ some k) (r10 : ∀ k, (l 8).ownBlock = some k → (l 5).ownBlock ≠ some k) (hbase : base ≤ w.heap.size) (hm0 : m0 ≤ 100000000) (hN0 : ∀ i, i < m0 → N0 i ≤ 100000000 ∧ Kn0 i ≤ 100000000) (hm1 : m1 ≤ 100000000) (hN1 : ∀ i, i < m1 → N1 i ≤ 100000000 ∧ Kn1 i ≤ 100000000) :
    Calls Tryz.prog 9 #[.pointer (some ⟨b, 4, none⟩)] w fun e w' => e = .returned (.bool true) ∧ (∃ G0' G1', BkL 5 114 66 32 base w' b n l m0 V0 N0 (fun i => marks (mkHash (Kn0 i)).toList (N0 i)) G0' Kn0 ∧ BkL 8 128 130 34 base w' b n l m1 V1 N1 (fun i => marks (mkNode (Kn1 i)).toList (N1 i)) G1' Kn1) ∧ Keep (fun k => (∃ i, i < m0 ∧ (V0 i).ownBlock = some k) ∨ (l 5).ownBlock = some k ∨ (∃ i, i < m1 ∧ (V1 i).ownBlock = some k) ∨ (l 8).ownBlock = some k) w w' := by
  have HZ := Bx.mk hz; have HB := Bx.mk hbase

  have B00 := Bx.mk h0; have HM0 := Bx.mk hm0; have HN0 := Bx.mk hN0
  have OX0 : Bx (∀ i, i < m0 → fillX (mkHash (Kn0 i)).toList (X0 i) (N0 i) = marks (mkHash (Kn0 i)).toList (N0 i)) := ⟨fun i hi => fillX_marks _ _ _ (by rw [mkHashL]; exact (h0.li i hi).1)⟩
  clear hm0 hN0
  have B01 := Bx.mk h1; have HM1 := Bx.mk hm1; have HN1 := Bx.mk hN1
  have OX1 : Bx (∀ i, i < m1 → fillX (mkNode (Kn1 i)).toList (X1 i) (N1 i) = marks (mkNode (Kn1 i)).toList (N1 i)) := ⟨fun i hi => fillX_marks _ _ _ (by rw [mkNodeL]; exact (h1.li i hi).1)⟩
  clear hm1 hN1
  have S01 := Bx.mk s01; have R01 := Bx.mk r01
  clear s01 r01
  have S10 := Bx.mk s10; have R10 := Bx.mk r10
  clear s10 r10
  have KK0 : Bx (Keep (fun k => (∃ i, i < m0 ∧ (V0 i).ownBlock = some k) ∨ (l 5).ownBlock = some k ∨ (∃ i, i < m1 ∧ (V1 i).ownBlock = some k) ∨ (l 8).ownBlock = some k) w w) := ⟨Keep.refl _ _⟩
  clear hz hbase h0 h1
  go_enter Tryz.func9, Tryz.ntmps9
  go_wp2_with fail
  refine (fillInt_nil w b (n : Int) l B00.out.bk (HZ.out 1 (by decide) (by decide) (by decide))).mono ?_
  rintro e z1 ⟨rfl, hz1⟩
  rw [hz1]; clear hz1
  go_wp2_with fail
  refine (fillByte_nil w b (n : Int) l B00.out.bk (HZ.out 2 (by decide) (by decide) (by decide))).mono ?_
  rintro e z2 ⟨rfl, hz2⟩
  rw [hz2]; clear hz2
  go_wp2_with fail
  refine (fillText_nil w b (n : Int) l B00.out.bk (HZ.out 3 (by decide) (by decide) (by decide))).mono ?_
  rintro e z3 ⟨rfl, hz3⟩
  rw [hz3]; clear hz3
  go_wp2_with fail
  refine (fillNumber_nil w b (n : Int) l B00.out.bk (HZ.out 4 (by decide) (by decide) (by decide))).mono ?_
  rintro e z4 ⟨rfl, hz4⟩
  rw [hz4]; clear hz4
  go_wp2_with fail
  refine (fillHash_any base w b n l m0 V0 N0 X0 G0 Kn0 B00.out (Nat.le_trans HB.out KK0.out.size) HM0.out HN0.out).mono ?_
  rintro e w1 ⟨rfl, hB, hk⟩
  have C1 := Bx.mk (hB.of OX0.out)
  have K1 := Bx.mk (KK0.out.trans (hk.mono (S' := fun k => (∃ i, i < m0 ∧ (V0 i).ownBlock = some k) ∨ (l 5).ownBlock = some k ∨ (∃ i, i < m1 ∧ (V1 i).ownBlock = some k) ∨ (l 8).ownBlock = some k) (fun j _ hj => .inl (hj))) (fun _ _ h => h))
  have D1Node := Bx.mk (B01.out.keep hk hB.bk rfl (fun j hj e => by obtain ⟨i, hi, e⟩ := e; exact (S01.out i hi j e).1 hj) (fun i hi j hj e => by obtain ⟨i2, hi2, e⟩ := e; exact (S01.out i2 hi2 j e).2 i hi hj))
  clear hB hk
  go_wp2_with fail
  refine (fillCoord_nil w1 b (n : Int) l C1.out.bk (HZ.out 6 (by decide) (by decide) (by decide))).mono ?_
  rintro e z5 ⟨rfl, hz5⟩
  rw [hz5]; clear hz5
  go_wp2_with fail
  refine (fillSpan_nil w1 b (n : Int) l C1.out.bk (HZ.out 7 (by decide) (by decide) (by decide))).mono ?_
  rintro e z6 ⟨rfl, hz6⟩
  rw [hz6]; clear hz6
  go_wp2_with fail
  refine (fillNode_any base w1 b n l m1 V1 N1 X1 G1 Kn1 D1Node.out (Nat.le_trans HB.out K1.out.size) HM1.out HN1.out).mono ?_
  rintro e w2 ⟨rfl, hB, hk⟩
  have C2 := Bx.mk (hB.of OX1.out)
  have K2 := Bx.mk (K1.out.trans (hk.mono (S' := fun k => (∃ i, i < m0 ∧ (V0 i).ownBlock = some k) ∨ (l 5).ownBlock = some k ∨ (∃ i, i < m1 ∧ (V1 i).ownBlock = some k) ∨ (l 8).ownBlock = some k) (fun j _ hj => .inr (.inr (.inl (hj))))) (fun _ _ h => h))
  have D2Hash := Bx.mk (C1.out.keep hk hB.bk rfl (fun j hj e => by obtain ⟨i, hi, e⟩ := e; exact (S10.out i hi j e).1 hj) (fun i hi j hj e => by obtain ⟨i2, hi2, e⟩ := e; exact (S10.out i2 hi2 j e).2 i hi hj))
  clear hB hk
  go_wp2_with fail
  refine (fillTile_nil w2 b (n : Int) l D2Hash.out.bk (HZ.out 9 (by decide) (by decide) (by decide))).mono ?_
  rintro e z7 ⟨rfl, hz7⟩
  rw [hz7]; clear hz7
  go_wp2_with fail
  refine (fillEntry_nil w2 b (n : Int) l D2Hash.out.bk (HZ.out 10 (by decide) (by decide) (by decide))).mono ?_
  rintro e z8 ⟨rfl, hz8⟩
  rw [hz8]; clear hz8
  go_wp2_with fail
  refine (fillFound_nil w2 b (n : Int) l D2Hash.out.bk (HZ.out 11 (by decide) (by decide) (by decide))).mono ?_
  rintro e z9 ⟨rfl, hz9⟩
  rw [hz9]; clear hz9
  go_wp2_with fail
  refine (fillKnown_nil w2 b (n : Int) l D2Hash.out.bk (HZ.out 12 (by decide) (by decide) (by decide))).mono ?_
  rintro e z10 ⟨rfl, hz10⟩
  rw [hz10]; clear hz10
  go_wp2_with fail
  refine (fillVote_nil w2 b (n : Int) l D2Hash.out.bk (HZ.out 13 (by decide) (by decide) (by decide))).mono ?_
  rintro e z11 ⟨rfl, hz11⟩
  rw [hz11]; clear hz11
  go_wp2_with fail
  refine (fillPart_nil w2 b (n : Int) l D2Hash.out.bk (HZ.out 14 (by decide) (by decide) (by decide))).mono ?_
  rintro e z12 ⟨rfl, hz12⟩
  rw [hz12]; clear hz12
  go_wp2_with fail
  refine (fillHashList_nil w2 b (n : Int) l D2Hash.out.bk (HZ.out 15 (by decide) (by decide) (by decide))).mono ?_
  rintro e z13 ⟨rfl, hz13⟩
  rw [hz13]; clear hz13
  go_wp2_with fail
  refine (fillQuery_nil w2 b (n : Int) l D2Hash.out.bk (HZ.out 16 (by decide) (by decide) (by decide))).mono ?_
  rintro e z14 ⟨rfl, hz14⟩
  rw [hz14]; clear hz14
  go_wp2_with fail
  refine (growInt_nil w2 b (n : Int) l D2Hash.out.bk (HZ.out 1 (by decide) (by decide) (by decide))).mono ?_
  rintro e z15 ⟨rfl, hz15⟩
  rw [hz15]; clear hz15
  go_wp2_with fail
  refine (growByte_nil w2 b (n : Int) l D2Hash.out.bk (HZ.out 2 (by decide) (by decide) (by decide))).mono ?_
  rintro e z16 ⟨rfl, hz16⟩
  rw [hz16]; clear hz16
  go_wp2_with fail
  refine (growText_nil w2 b (n : Int) l D2Hash.out.bk (HZ.out 3 (by decide) (by decide) (by decide))).mono ?_
  rintro e z17 ⟨rfl, hz17⟩
  rw [hz17]; clear hz17
  go_wp2_with fail
  refine (growNumber_nil w2 b (n : Int) l D2Hash.out.bk (HZ.out 4 (by decide) (by decide) (by decide))).mono ?_
  rintro e z18 ⟨rfl, hz18⟩
  rw [hz18]; clear hz18
  go_wp2_with fail
  refine (growHash_any base w2 b n l m0 V0 N0 G0 Kn0 D2Hash.out (Nat.le_trans HB.out K2.out.size) HM0.out HN0.out).mono ?_
  rintro e w3 ⟨rfl, G'0, hB, hg, hk⟩
  have C3 := Bx.mk hB; have GG0 := Bx.mk (fun i (hi : i < m0) => (hg i hi).1)
  have GL0 := Bx.mk (fun i (hi : i < m0) => (hg i hi).2)
  have LT0 := Bx.mk K2.out.size
  have K3 := Bx.mk (K2.out.trans (hk.mono (S' := fun k => (∃ i, i < m0 ∧ (V0 i).ownBlock = some k) ∨ (l 5).ownBlock = some k ∨ (∃ i, i < m1 ∧ (V1 i).ownBlock = some k) ∨ (l 8).ownBlock = some k) (fun j _ hj => hj.elim (fun hj => .inl (hj)) (fun hj => .inr (.inl (hj))))) (fun _ _ h => h))
  have D3Node := Bx.mk (C2.out.keep hk hB.bk rfl (fun j hj e => by
    rcases e with ⟨i, hi, e⟩ | e
    · exact (S01.out i hi j e).1 hj
    · exact R01.out j e hj) (fun i hi j hj e => by
    rcases e with ⟨i2, hi2, e⟩ | e
    · exact (S01.out i2 hi2 j e).2 i hi hj
    · exact (S10.out i hi j hj).1 e))
  clear hB hg hk
  go_wp2_with fail
  refine (growCoord_nil w3 b (n : Int) l C3.out.bk (HZ.out 6 (by decide) (by decide) (by decide))).mono ?_
  rintro e z19 ⟨rfl, hz19⟩
  rw [hz19]; clear hz19
  go_wp2_with fail
  refine (growSpan_nil w3 b (n : Int) l C3.out.bk (HZ.out 7 (by decide) (by decide) (by decide))).mono ?_
  rintro e z20 ⟨rfl, hz20⟩
  rw [hz20]; clear hz20
  go_wp2_with fail
  refine (growNode_any base w3 b n l m1 V1 N1 G1 Kn1 D3Node.out (Nat.le_trans HB.out K3.out.size) HM1.out HN1.out).mono ?_
  rintro e w4 ⟨rfl, G'1, hB, hg, hk⟩
  have C4 := Bx.mk hB; have GG1 := Bx.mk (fun i (hi : i < m1) => (hg i hi).1)
  have GL1 := Bx.mk (fun i (hi : i < m1) => (hg i hi).2)
  have LT1 := Bx.mk K3.out.size
  have K4 := Bx.mk (K3.out.trans (hk.mono (S' := fun k => (∃ i, i < m0 ∧ (V0 i).ownBlock = some k) ∨ (l 5).ownBlock = some k ∨ (∃ i, i < m1 ∧ (V1 i).ownBlock = some k) ∨ (l 8).ownBlock = some k) (fun j _ hj => hj.elim (fun hj => .inr (.inr (.inl (hj)))) (fun hj => .inr (.inr (.inr (hj)))))) (fun _ _ h => h))
  have D4Hash := Bx.mk (C3.out.keep hk hB.bk rfl (fun j hj e => by
    rcases e with ⟨i, hi, e⟩ | e
    · exact (S10.out i hi j e).1 hj
    · exact R10.out j e hj) (fun i hi j hj e => by
    rcases e with ⟨i2, hi2, e⟩ | e
    · exact (S10.out i2 hi2 j e).2 i hi hj
    · exact (S01.out i hi j hj).1 e))
  have GG0b := Bx.mk (fun i (hi : i < m0) => ownsRow_keep' (GG0.out i hi) fun j hj => hk.block j (ownsRow_lt (GG0.out i hi) j hj) (fun e => by
    have hlt := ownsRow_lt (GG0.out i hi) j hj
    rcases GL0.out i hi j hj with h1 | h1
    · rcases e with ⟨i2, hi2, e⟩ | e
      · exact (S10.out i2 hi2 j e).2 i hi h1
      · exact (S01.out i hi j h1).1 e
    · rcases e with ⟨i2, hi2, e⟩ | e
      · have := ownsRow_lt (C2.out.li i2 hi2) j e; omega
      · have := ownsRow_lt C2.out.row j e; omega))
  clear hB hg hk
  go_wp2_with fail
  refine (growTile_nil w4 b (n : Int) l D4Hash.out.bk (HZ.out 9 (by decide) (by decide) (by decide))).mono ?_
  rintro e z21 ⟨rfl, hz21⟩
  rw [hz21]; clear hz21
  go_wp2_with fail
  refine (growEntry_nil w4 b (n : Int) l D4Hash.out.bk (HZ.out 10 (by decide) (by decide) (by decide))).mono ?_
  rintro e z22 ⟨rfl, hz22⟩
  rw [hz22]; clear hz22
  go_wp2_with fail
  refine (growFound_nil w4 b (n : Int) l D4Hash.out.bk (HZ.out 11 (by decide) (by decide) (by decide))).mono ?_
  rintro e z23 ⟨rfl, hz23⟩
  rw [hz23]; clear hz23
  go_wp2_with fail
  refine (growKnown_nil w4 b (n : Int) l D4Hash.out.bk (HZ.out 12 (by decide) (by decide) (by decide))).mono ?_
  rintro e z24 ⟨rfl, hz24⟩
  rw [hz24]; clear hz24
  go_wp2_with fail
  refine (growVote_nil w4 b (n : Int) l D4Hash.out.bk (HZ.out 13 (by decide) (by decide) (by decide))).mono ?_
  rintro e z25 ⟨rfl, hz25⟩
  rw [hz25]; clear hz25
  go_wp2_with fail
  refine (growPart_nil w4 b (n : Int) l D4Hash.out.bk (HZ.out 14 (by decide) (by decide) (by decide))).mono ?_
  rintro e z26 ⟨rfl, hz26⟩
  rw [hz26]; clear hz26
  go_wp2_with fail
  refine (growHashList_nil w4 b (n : Int) l D4Hash.out.bk (HZ.out 15 (by decide) (by decide) (by decide))).mono ?_
  rintro e z27 ⟨rfl, hz27⟩
  rw [hz27]; clear hz27
  go_wp2_with fail
  refine (growQuery_nil w4 b (n : Int) l D4Hash.out.bk (HZ.out 16 (by decide) (by decide) (by decide))).mono ?_
  rintro e z28 ⟨rfl, hz28⟩
  rw [hz28]; clear hz28
  go_wp2_with fail
  refine (lookInt_nil w4 b (n : Int) l D4Hash.out.bk (HZ.out 1 (by decide) (by decide) (by decide))).mono ?_
  rintro e z29 ⟨rfl, hz29⟩
  rw [hz29]; clear hz29
  go_wp2_with fail
  refine (lookByte_nil w4 b (n : Int) l D4Hash.out.bk (HZ.out 2 (by decide) (by decide) (by decide))).mono ?_
  rintro e z30 ⟨rfl, hz30⟩
  rw [hz30]; clear hz30
  go_wp2_with fail
  refine (lookText_nil w4 b (n : Int) l D4Hash.out.bk (HZ.out 3 (by decide) (by decide) (by decide))).mono ?_
  rintro e z31 ⟨rfl, hz31⟩
  rw [hz31]; clear hz31
  go_wp2_with fail
  refine (lookNumber_nil w4 b (n : Int) l D4Hash.out.bk (HZ.out 4 (by decide) (by decide) (by decide))).mono ?_
  rintro e z32 ⟨rfl, hz32⟩
  rw [hz32]; clear hz32
  go_wp2_with fail
  refine (lookHash_any base w4 b n l m0 V0 N0 G'0 Kn0 D4Hash.out GG0b.out HM0.out HN0.out).mono ?_
  rintro e w5 ⟨rfl, hb⟩
  have K5 := Bx.mk (K4.out.trans (Keep.of_below hb (fun k => (∃ i, i < m0 ∧ (V0 i).ownBlock = some k) ∨ (l 5).ownBlock = some k ∨ (∃ i, i < m1 ∧ (V1 i).ownBlock = some k) ∨ (l 8).ownBlock = some k)) (fun _ _ h => h))
  have D5Hash := Bx.mk (D4Hash.out.keep (Keep.of_below hb (fun _ => False)) (D4Hash.out.bk.below hb) rfl (fun _ _ h => h) (fun _ _ _ _ h => h))
  have D5Node := Bx.mk (C4.out.keep (Keep.of_below hb (fun _ => False)) (C4.out.bk.below hb) rfl (fun _ _ h => h) (fun _ _ _ _ h => h))
  have GG1 := Bx.mk (fun i (hi : i < m1) => ownsRow_keep' (GG1.out i hi) fun j hj => hb.block j (ownsRow_lt (GG1.out i hi) j hj))
  clear hb
  go_wp2_with fail
  refine (lookCoord_nil w5 b (n : Int) l D5Hash.out.bk (HZ.out 6 (by decide) (by decide) (by decide))).mono ?_
  rintro e z33 ⟨rfl, hz33⟩
  rw [hz33]; clear hz33
  go_wp2_with fail
  refine (lookSpan_nil w5 b (n : Int) l D5Hash.out.bk (HZ.out 7 (by decide) (by decide) (by decide))).mono ?_
  rintro e z34 ⟨rfl, hz34⟩
  rw [hz34]; clear hz34
  go_wp2_with fail
  refine (lookNode_any base w5 b n l m1 V1 N1 G'1 Kn1 D5Node.out GG1.out HM1.out HN1.out).mono ?_
  rintro e w6 ⟨rfl, hb⟩
  have K6 := Bx.mk (K5.out.trans (Keep.of_below hb (fun k => (∃ i, i < m0 ∧ (V0 i).ownBlock = some k) ∨ (l 5).ownBlock = some k ∨ (∃ i, i < m1 ∧ (V1 i).ownBlock = some k) ∨ (l 8).ownBlock = some k)) (fun _ _ h => h))
  have D6Hash := Bx.mk (D5Hash.out.keep (Keep.of_below hb (fun _ => False)) (D5Hash.out.bk.below hb) rfl (fun _ _ h => h) (fun _ _ _ _ h => h))
  have D6Node := Bx.mk (D5Node.out.keep (Keep.of_below hb (fun _ => False)) (D5Node.out.bk.below hb) rfl (fun _ _ h => h) (fun _ _ _ _ h => h))
  clear hb
  go_wp2_with fail
  refine (lookTile_nil w6 b (n : Int) l D6Hash.out.bk (HZ.out 9 (by decide) (by decide) (by decide))).mono ?_
  rintro e z35 ⟨rfl, hz35⟩
  rw [hz35]; clear hz35
  go_wp2_with fail
  refine (lookEntry_nil w6 b (n : Int) l D6Hash.out.bk (HZ.out 10 (by decide) (by decide) (by decide))).mono ?_
  rintro e z36 ⟨rfl, hz36⟩
  rw [hz36]; clear hz36
  go_wp2_with fail
  refine (lookFound_nil w6 b (n : Int) l D6Hash.out.bk (HZ.out 11 (by decide) (by decide) (by decide))).mono ?_
  rintro e z37 ⟨rfl, hz37⟩
  rw [hz37]; clear hz37
  go_wp2_with fail
  refine (lookKnown_nil w6 b (n : Int) l D6Hash.out.bk (HZ.out 12 (by decide) (by decide) (by decide))).mono ?_
  rintro e z38 ⟨rfl, hz38⟩
  rw [hz38]; clear hz38
  go_wp2_with fail
  refine (lookVote_nil w6 b (n : Int) l D6Hash.out.bk (HZ.out 13 (by decide) (by decide) (by decide))).mono ?_
  rintro e z39 ⟨rfl, hz39⟩
  rw [hz39]; clear hz39
  go_wp2_with fail
  refine (lookPart_nil w6 b (n : Int) l D6Hash.out.bk (HZ.out 14 (by decide) (by decide) (by decide))).mono ?_
  rintro e z40 ⟨rfl, hz40⟩
  rw [hz40]; clear hz40
  go_wp2_with fail
  refine (lookHashList_nil w6 b (n : Int) l D6Hash.out.bk (HZ.out 15 (by decide) (by decide) (by decide))).mono ?_
  rintro e z41 ⟨rfl, hz41⟩
  rw [hz41]; clear hz41
  go_wp2_with fail
  refine (lookQuery_nil w6 b (n : Int) l D6Hash.out.bk (HZ.out 16 (by decide) (by decide) (by decide))).mono ?_
  rintro e z42 ⟨rfl, hz42⟩
  rw [hz42]; clear hz42
  go_wp2_with fail
  go_ret
  exact ⟨rfl, ⟨_, _, D6Hash.out, D6Node.out⟩, K6.out⟩
end Go.Proofs.YtbhcaalelfaceaaGreatDoor
end
