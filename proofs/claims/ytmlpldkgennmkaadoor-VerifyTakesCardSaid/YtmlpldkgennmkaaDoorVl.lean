/- cartularylaw01.LeftHashes; cartularyref18.Root, Inclusion; verify.Inclusion. -/
import Derived.Test.YtmlpldkgennmkaaDoorVc
import Derived.Test.YtmlpldkgennmkaaDoorVt
import Derived.Test.YtmlpldkgennmkaaDoorRowW
namespace Go.Proofs.YtmlpldkgennmkaaDoor
set_option maxRecDepth 100000
open Go.RowKit
theorem wpList_load_mid_w {P : Program} {ops : Array Oper} {rest : List Oper} {o : Oper} {a : Act} {w : World} {Q : Exit → Act → World → Prop} (hw : Region.wanted o (yielded ops a.tmps) = true) (ty : TypeId) (x : Operand) (ho : o.op = .load ty x)
    (b q : Nat) (hx : a.eval x = .pointer (some ⟨b, q, none⟩)) (cs : List Value) (d : TypeDesc) (hc : w.rangeAt b q cs)
    (hu : P.underlying ty = some d) (hd : d.isRow = true) (hi : (P.info? ty).map (·.size) = some cs.length)
    (h : wpList P ops Q rest (a.put o.dst (.agg cs.toArray)) w) : wpList P ops Q (o :: rest) a w :=
  wpList_step fun K hK => by rw [if_pos hw]; exact wp_load_mid ty x ho b q hx cs d hc hu hd hi (hK _ _ h)
set_option maxHeartbeats 800000 in
theorem isHash_any (w : World) : Calls Tryd.prog 35 #[.agg (ocells markH), .int .i64 7777] w fun e w' => e = .returned (.bool true) ∧ Below w.heap.size w w' := by
  have q : ∀ u : World, (binOp .eql 24 (.agg (ocells markH)) (.agg #[.int .u8 97, .int .u8 30, .int .u8 0, .int .u8 0, .int .u8 0, .int .u8 0, .int .u8 0, .int .u8 0, .int .u8 0, .int .u8 0, .int .u8 0, .int .u8 0, .int .u8 0, .int .u8 0, .int .u8 0, .int .u8 0, .int .u8 0, .int .u8 0, .int .u8 0, .int .u8 0, .int .u8 0, .int .u8 0, .int .u8 0, .int .u8 0, .int .u8 0, .int .u8 0, .int .u8 0, .int .u8 0, .int .u8 0, .int .u8 0, .int .u8 0, .int .u8 201])).run Tryd.prog u = .ok (.bool true) u := fun u => (hv_eq u markH markH rfl rfl).trans (by simp)
  have r0 : (w.alloc (.cells (ocells markH) 24)).heap[w.heap.size]? = some (.cells (ocells markH) 24 (0, 0)) := heap_alloc_new _ _
  have k0 := er_al (Below.refl w.heap.size w) (.cells (ocells markH) 24)
  generalize hmm : ocells markH = mm at q r0 k0 ⊢
  have hsz := hszL markH_length
  rw [hmm] at hsz
  go_enter Tryd.func35, Tryd.ntmps35
  go_upto_region 1 with (fail)
  change Code.wp _ _ _ _ (w.alloc (.cells mm 24))
  generalize w.alloc (.cells mm 24) = W at r0 k0 ⊢
  have R0' := Bx.mk r0; have K0 := Bx.mk k0; have SZ := Bx.mk hsz; clear r0 k0 hmm hsz
  go_wp2_with (guard_target =~ wpList _ _ _ (⟨some 5, _, _, _, _, _⟩ :: _) _ _; refine wpList_load_row rfl 24 (.tmp 2) rfl w.heap.size rfl _ _ _ _ R0'.out underH rfl SZ.out ?_)
  go_ret
  exact ⟨rfl, K0.out⟩
set_option maxHeartbeats 1600000 in
theorem left_any (w : World) (v : Value) (ps : List (List UInt8)) (ad : Option Addr) (n cap : Nat) (h1 : TwinAt w v ps) (h2 : Hss w (.slice ad n cap) ps) (hm : ps.length ≤ 1048576) :
    Calls Tryd.prog 13 #[v, .slice ad n cap] w fun e w' => e = .returned (.bool true) ∧ Below w.heap.size w w' := by
  obtain ⟨_, _, e1, b1, b1'⟩ := h2.len
  have hn1 : n = ps.length := by cases e1; rfl
  subst hn1
  have h1' := h1
  obtain ⟨hh, B, rfl, hB, hr⟩ := h1'
  have cs := same_any w _ _ _ ps _ _ _ ps hh h2
  rw [show (ps == ps) = true by simp] at cs
  have T := Bx.mk h1; have CS := Bx.mk cs; have BL := Bx.mk hB; have RG := Bx.mk hr
  clear h1 cs hB hr hh e1 h2
  obtain ⟨l, hl⟩ : ∃ l, l = ps.length := ⟨_, rfl⟩
  rw [← hl] at CS RG hm ⊢
  have HL := Bx.mk hl; clear hl
  have d1 : IntKind.i64.wrap ((l : Int) + 1) = (l : Int) + 1 := by simp [IntKind.wrap, IntKind.bits, IntKind.signed]; omega
  go_enter Tryd.func13, Tryd.ntmps13
  go_wp2_with fail
  refine CS.out.mono ?_
  rintro e w1 ⟨rfl, hb⟩
  have hr := rangeAt_below RG.out BL.out hb
  have R1 := Bx.mk hr; have B1 := Bx.mk hb; clear hr hb
  have f1 : ¬ (l : Int) + 1 ≤ (l : Int) := by omega
  have f2 : (l : Int) < (l : Int) + 1 := by omega
  go_wp2_with (guard_target =~ wpList _ _ _ (⟨some 17, _, _, _, _, _⟩ :: _) _ _; refine wpList_load_mid_w rfl 24 (.tmp 16) rfl B (l * 32) rfl (bcells markH) _ R1.out underH rfl (hszB' markH_length) ?_)
  refine (isHash_any w1).mono ?_
  rintro e w2 ⟨rfl, hb⟩
  have B2 := Bx.mk (B1.out.trans (hb.mono B1.out.size)); clear hb
  go_wp2_with fail
  go_ret
  exact ⟨rfl, B2.out⟩
end Go.Proofs.YtmlpldkgennmkaaDoor
