/- cartularylaw10: one hash more in a builder and in the document's. -/
import Derived.Test.YtbhcaalelfaceaaGreatDoorReE
import Derived.Test.YtbhcaalelfaceaaGreatDoorOwnL
import Derived.Test.YtbhcaalelfaceaaGreatDoorEmT
import Derived.Test.YtbhcaalelfaceaaGreatDoorMid
namespace Go.Proofs.YtbhcaalelfaceaaGreatDoor
set_option maxRecDepth 100000
open Go.RowKit
/-- the document's Add at the limit -/
theorem radd_limit (base : Nat) (w : World) (rb : Nat) (ls : List (List UInt8)) (L : Value) (hB : RbM base w rb 9223372036854775808 ls L) (p : List UInt8) :
    Calls Tryz.prog 71 #[.pointer (some ⟨rb, 0, none⟩), hv p] w fun e w' => e = .returned (.tuple #[.slice none 0 0, .agg #[.int .i64 4, .int .i64 (-1)]]) ∧ Below w.heap.size w w' := by
  have kb1 := er_al (Below.refl w.heap.size w) (.cells (ocells p) 66)
  have kb := er_al kb1 (.cells #[.int .i64 0, .int .i64 0] 73)
  have xF := heap_alloc_new (w.alloc (.cells (ocells p) 66)) (.cells #[.int .i64 0, .int .i64 0] 73)
  rw [show (w.alloc (.cells (ocells p) 66)).heap.size = w.heap.size + 1 by simp] at xF
  have xb := (hB.below kb).hb
  have c0 := er_cellAt xb 0 _ rfl
  clear hB xb kb1
  unfold hv
  go_enter Tryz.func71, Tryz.ntmps71
  go_upto_region 1 with (fail)
  change Code.wp _ _ _ _ ((w.alloc (.cells (ocells p) 66)).alloc (.cells #[.int .i64 0, .int .i64 0] 73))
  generalize hW : (w.alloc (.cells (ocells p) 66)).alloc (.cells #[.int .i64 0, .int .i64 0] 73) = W at kb xF c0 ⊢
  obtain ⟨G, hG⟩ : ∃ G, G = w.heap.size + 1 := ⟨_, rfl⟩
  rw [← hG] at xF ⊢
  have XF := Bx.mk xF; have KB := Bx.mk kb; have HG := Bx.mk (show w.heap.size ≤ G by omega)
  clear xF kb hG hW
  go_wp2_with fail
  refine (plainP_any W 4 (by decide)).mono ?_
  rintro e w1 ⟨rfl, hb⟩
  have x1 := (hb.block G (Array.getElem?_eq_some_iff.1 XF.out).1).trans XF.out
  have X1 := Bx.mk x1
  have B1 := Bx.mk (KB.out.trans (hb.mono KB.out.size))
  have c0 := er_cellAt x1 0 _ rfl; have c1 := er_cellAt x1 1 _ rfl
  have f3 := frozenC x1 0; have f4 := frozenC x1 1
  clear hb x1
  go_wp2_with fail
  exact bodyPost_ret (res_tf rfl _ _ G _ _ _ _ rfl (two_setE X1.out _ _) Tryz.underlying73 (by kernel_rfl)) rfl ⟨rfl, (B1.out.setCell HG.out _).setCell HG.out _⟩
theorem ED.U_put {D : ED} {wb k s' r' n' : Nat} {ls' : List (List UInt8)} {sv' L' : Value} {l' : Nat → Value} (h5 : l' 5 = D.l 5) (h8 : l' 8 = D.l 8) (a : Nat) (ha : a < 6) (j : Nat) (hj : (D.put k s' r' n' ls' sv' L' l').U wb a j) : D.U wb a j ∨ BuS s' sv' j ∨ RbS r' L' j := by
  have uS : ∀ i, BuS (updF D.s k s' i) (updF D.sv k sv' i) j → BuS (D.s i) (D.sv i) j ∨ BuS s' sv' j := fun i hj => by
    by_cases e : i = k
    · subst e; rw [updF_at, updF_at] at hj; exact .inr hj
    · rw [updF_ne e, updF_ne e] at hj; exact .inl hj
  have uR : ∀ i, RbS (updF D.r k r' i) (updF D.L k L' i) j → RbS (D.r i) (D.L i) j ∨ RbS r' L' j := fun i hj => by
    by_cases e : i = k
    · subst e; rw [updF_at, updF_at] at hj; exact .inr hj
    · rw [updF_ne e, updF_ne e] at hj; exact .inl hj
  match a, ha, hj with
  | 0, _, hj => exact (uS 0 hj).imp id .inl
  | 1, _, hj => exact (uS 1 hj).imp id .inl
  | 2, _, hj => exact (uR 0 hj).imp id .inr
  | 3, _, hj => exact (uR 1 hj).imp id .inr
  | 5, _, hj => exact .inl hj
  | 4, _, hj =>
    refine .inl ?_
    have hj : (D.put k s' r' n' ls' sv' L' l').B j := hj
    unfold ED.B at hj
    rw [show (D.put k s' r' n' ls' sv' L' l').l 5 = D.l 5 from h5, show (D.put k s' r' n' ls' sv' L' l').l 8 = D.l 8 from h8] at hj
    exact hj
theorem BkP.cR {u : World} {wb : Nat} {bn : Int} {l : Nat → Value} (h : BkP u wb bn l) {k : Nat} (hk : k < 2) {v : Value} (e : l (19 + k) = v) : u.cell? ⟨wb, 2 + k, none⟩ = some v := by
  rw [← e]
  rcases (show k = 0 ∨ k = 1 by omega) with rfl | rfl
  · exact er_cellAt h.hb 2 _ rfl
  · exact er_cellAt h.hb 3 _ rfl
/-- Add's answer and what it leaves -/
def AddG (base : Nat) (w : World) (b : Nat) (s : Value) (n2 : Nat) (ls2 : List (List UInt8)) (NL : List (Nat × Nat × List UInt8)) (ev : Value) (e : Ending) (w' : World) : Prop :=
  ∃ a c, e = .returned (.tuple #[.slice a NL.length c, ev]) ∧ w'.ownsRow w.heap.size 130 34 (.slice a NL.length c) NL.length (ncells NL) ∧ Keep (BuS b s) w w' ∧ ∃ s', BuP base w' b n2 ls2 s' ∧ ∀ k, s'.ownBlock = some k → s.ownBlock = some k ∨ w.heap.size ≤ k
/-- the document's -/
def RAddG (base : Nat) (w : World) (r : Nat) (L : Value) (n2 : Nat) (ls2 : List (List UInt8)) (NL : List (Nat × Nat × List UInt8)) (fc fa : Int) (e : Ending) (w' : World) : Prop :=
  ∃ a c, e = .returned (.tuple #[.slice a NL.length c, .agg #[.int .i64 fc, .int .i64 fa]]) ∧ w'.ownsRow w.heap.size 130 34 (.slice a NL.length c) NL.length (ncells NL) ∧ Keep (fun j => j = r) w w' ∧ ∃ L', RbM base w' r n2 ls2 L' ∧ ∀ k, L'.ownBlock = some k → L.ownBlock = some k ∨ w.heap.size ≤ k
theorem add_both (A : Nat → Addr) (base : Nat) (sk rk n : Nat) (ls : List (List UInt8)) (sv Lv : Value) (hlen : ls.length = pcnt n) (hn : n ≤ 9223372036854775808) (p : List UInt8) (hp : p.length = 32) :
    ∃ n2 ls2 NL ev fc fa, ls2.length = pcnt n2 ∧ n2 ≤ 9223372036854775808 ∧ NL.length ≤ 65 ∧ (∀ x ∈ NL, x.2.2.length = 32) ∧
      (∀ u, Errs u A → Calls Tryz.prog 14 #[ev, .agg #[.int .i64 fc, .int .i64 fa]] u fun e w' => e = .returned (.bool true) ∧ Below u.heap.size u w') ∧
      (∀ u, BuP base u sk n ls sv → base ≤ u.heap.size → Ec A u → Calls Tryz.prog 70 #[.pointer (some ⟨sk, 0, none⟩), .agg (ocells p)] u (AddG base u sk sv n2 ls2 NL ev)) ∧
      (∀ u, RbM base u rk n ls Lv → base ≤ u.heap.size → Calls Tryz.prog 71 #[.pointer (some ⟨rk, 0, none⟩), .agg (ocells p)] u (RAddG base u rk Lv n2 ls2 NL fc fa)) := by
  by_cases hlt : n < 9223372036854775808
  · refine ⟨n + 1, lsB n ls p, nodesB n ls p (tones n + 1), .nilIface, 0, 0, lsB_length p hlen (by omega), by omega, ?_, nodesB_mem hp _, fun u hE => same_err hE ErrV.no 0 0, fun u h1 h2 h3 => ?_, fun u h1 h2 => ?_⟩
    · rw [nodesB_length]; have := tones_64 n; omega
    · have c := add_any A base u sk n ls sv h1 hlen hlt p hp h3.hs h3.tz h3.lt h2
      rw [hv_agg] at c
      refine c.mono fun e w' ⟨v, e1, e2, e3, s', e4, e5⟩ => ?_
      obtain ⟨a, c, rfl, -, -, -⟩ := own_shapeK e2
      refine ⟨a, c, ?_, ?_, e3, s', e4, e5⟩
      · rw [nodesB_length]; exact e1
      · rw [nodesB_length]; exact e2
    · have c := radd_any base u rk n ls Lv h1 hlen hlt p hp h2
      rw [hv_agg] at c
      refine c.mono fun e w' ⟨v, e1, e2, e3, L', e4, e5⟩ => ?_
      obtain ⟨a, c, rfl, -, -, -⟩ := own_shapeK e2
      refine ⟨a, c, ?_, ?_, e3, L', e4, fun k hk => .inr (e5 k hk)⟩
      · rw [nodesB_length]; exact e1
      · rw [nodesB_length]; exact e2
  · obtain rfl : n = 9223372036854775808 := by omega
    refine ⟨9223372036854775808, ls, [], .iface 267 (.pointer (some (A 3))), 4, -1, hlen, Nat.le_refl _, by decide, (fun _ h => by cases h), fun u hE => same_err hE (ErrV.plain 3 (by decide)) 4 (-1), fun u h1 h2 h3 => ?_, fun u h1 h2 => ?_⟩
    · have c := add_limit A base u sk ls sv h1 p h3.hs.err
      rw [hv_agg] at c
      exact c.mono fun e w' ⟨e1, e2⟩ => ⟨none, 0, e1, World.ownsRow_nil _ _ _ _, Keep.of_below e2 _, sv, h1.below e2, fun k hk => .inl hk⟩
    · have c := radd_limit base u rk ls Lv h1 p
      rw [hv_agg] at c
      exact c.mono fun e w' ⟨e1, e2⟩ => ⟨none, 0, e1, World.ownsRow_nil _ _ _ _, Keep.of_below e2 _, Lv, h1.below e2, fun k hk => .inl hk⟩
end Go.Proofs.YtbhcaalelfaceaaGreatDoor
namespace Go.Proofs.YtbhcaalelfaceaaGreatDoor.K2
set_option maxRecDepth 100000
open Go.RowKit
/-- a row of nodes that nothing writes -/
def NodV (own : Nat → Option Nat) (w : World) (v : Value) (B : Nat) (NL : List (Nat × Nat × List UInt8)) : Prop :=
  ∃ a c, v = .slice a NL.length c ∧ w.ownsRow B 130 34 v NL.length (ncells NL) ∧ ∀ j, v.ownBlock = some j → own j = none
theorem NodV.stable {mk own own' : Nat → Option Nat} {w w' : World} {i : Nat} {v : Value} {B : Nat} {NL : List (Nat × Nat × List UInt8)} (h : NodV own w v B NL) (r : Rel mk i own w own' w') : NodV own' w' v B NL := by
  obtain ⟨a, c, rfl, h1, h2⟩ := h
  refine ⟨a, c, rfl, ownsRow_keep' h1 fun j hj => r.keep j (ownsRow_lt h1 j hj) (by rw [h2 j hj]; simp), fun j hj => (r.owns j (ownsRow_lt h1 j hj)).trans (h2 j hj)⟩
def TupV (own : Nat → Option Nat) (w : World) (v : Value) (B : Nat) (NL : List (Nat × Nat × List UInt8)) (fc fa : Int) : Prop := ∃ x, v = .tuple #[x, .agg #[.int .i64 fc, .int .i64 fa]] ∧ NodV own w x B NL
theorem TupV.stable {mk own own' : Nat → Option Nat} {w w' : World} {i : Nat} {v : Value} {B : Nat} {NL : List (Nat × Nat × List UInt8)} {fc fa : Int} (h : TupV own w v B NL fc fa) (r : Rel mk i own w own' w') : TupV own' w' v B NL fc fa := by
  obtain ⟨x, e, h⟩ := h
  exact ⟨x, e, h.stable r⟩
theorem Rel.kp {mk : Nat → Option Nat} {i : Nat} {own own' : Nat → Option Nat} {w w' : World} (r : Rel mk i own w own' w') : Keep (fun j => own j = some i) w w' := ⟨r.os, r.tape, r.output, r.size, fun k hk hn => r.keep k hk hn⟩
/-- the document's builder behind Add -/
def RbV (own : Nat → Option Nat) (w : World) (base B rk n2 : Nat) (ls2 : List (List UInt8)) (Lv : Value) : Prop :=
  own rk = some 7 ∧ ∃ L', RbM base w rk n2 ls2 L' ∧ ∀ j, L'.ownBlock = some j → own j = none ∧ (Lv.ownBlock = some j ∨ B ≤ j)
theorem RbV.stable {mk own own' : Nat → Option Nat} {w w' : World} {i base B rk n2 : Nat} {ls2 : List (List UInt8)} {Lv : Value} (h : RbV own w base B rk n2 ls2 Lv) (r : Rel mk i own w own' w') (hi : i ≠ 7) : RbV own' w' base B rk n2 ls2 Lv := by
  obtain ⟨h0, L', h1, h2⟩ := h
  have hl := (Array.getElem?_eq_some_iff.1 h1.hb).1
  refine ⟨(r.owns rk hl).trans h0, L', h1.kept r.kp (fun e => ?_) (fun j hj e => ?_), fun j hj => ⟨(r.owns j (ownsRow_lt h1.row j hj)).trans (h2 j hj).1, (h2 j hj).2⟩⟩
  · rw [h0] at e; exact hi (Option.some.inj e).symm
  · rw [(h2 j hj).1] at e; cases e
def AllV (own : Nat → Option Nat) (w : World) (v : Value) (base B rk n2 : Nat) (ls2 : List (List UInt8)) (Lv : Value) (NL : List (Nat × Nat × List UInt8)) (fc fa : Int) : Prop := TupV own w v B NL fc fa ∧ RbV own w base B rk n2 ls2 Lv
def VAd (wb k _N rk base B n2 : Nat) (ls2 : List (List UInt8)) (Lv : Value) (NL : List (Nat × Nat × List UInt8)) (fc fa : Int) (p : List UInt8) (oi : Nat) (v : Value) (own : Nat → Option Nat) (w : World) : Prop :=
  match oi with
  | 0 => v = .pointer (some ⟨wb, 0, none⟩)
  | 1 => v = .int .i64 (k : Int)
  | 2 => v = .pointer (some ⟨wb, 0, none⟩)
  | 3 => v = .pointer (some ⟨wb, 2, none⟩)
  | 4 => v = .pointer (some ⟨wb, 2 + k, none⟩)
  | 5 => v = .pointer (some ⟨rk, 0, none⟩)
  | 6 => v = .agg (ocells (p))
  | 7 => AllV own w v base B rk n2 ls2 Lv NL fc fa
  | 8 => TupV own w v B NL fc fa
  | 9 => NodV own w v B NL
  | 10 => v = .agg #[.int .i64 fc, .int .i64 fa]
  | 11 => AllocV own w v 13 73 2
  | 12 => NodV own w v B NL
  | 13 => StoredV own w 13 73 #[.int .i64 fc, .int .i64 fa]
  | _ => True
def VAdmk : Nat → Option Nat := fun j => match j with | 13 => some 11 | _ => none
theorem VAd_mono (wb k N rk base B n2 : Nat) (ls2 : List (List UInt8)) (Lv : Value) (NL : List (Nat × Nat × List UInt8)) (fc fa : Int) (p : List UInt8) (oi oj : Nat) (v : Value) (own : Nat → Option Nat) (w : World) (own' : Nat → Option Nat) (w' : World) (hij : oi ≠ oj)   (h : VAd wb k N rk base B n2 ls2 Lv NL fc fa p oj v own w) (r : Rel VAdmk oi own w own' w') : VAd wb k N rk base B n2 ls2 Lv NL fc fa p oj v own' w' := by
  unfold VAd at h ⊢
  split at h
  · exact h
  · exact h
  · exact h
  · exact h
  · exact h
  · exact h
  · exact h
  · exact ⟨h.1.stable r, h.2.stable r hij⟩
  · exact h.stable r
  · exact h.stable r
  · exact h
  · exact h.stable r rfl hij
  · exact h.stable r
  · exact h.stable r hij
  · trivial

theorem VAd_hmk (rk : Nat) : ∀ j i, VAdmk j = some i → ∀ k, (fun j => if j = rk then some 7 else none : Nat → Option Nat) k ≠ some j := by
  intro j i hj k h
  have h : (if k = rk then some 7 else none) = some j := h
  split at h
  · cases h; cases hj
  · cases h
set_option maxHeartbeats 1600000 in
theorem adds10_any (A : Nat → Addr) (base : Nat) (w : World) (wb : Nat) (D : ED) (h : EW base w wb D) (hbase : base ≤ w.heap.size) (hE : ∀ u, Below base w u → Ec A u) (hbn : D.bn ≤ 90000000) (k : Nat) (hk : k < 2) (p : List UInt8) (hp : p.length = 32) :
    Calls Tryz.prog 10 #[.pointer (some ⟨wb, 0, none⟩), .int .i64 (k : Int), .agg (ocells p)] w fun e w' => e = .returned (.bool true) ∧ (∃ D', EW base w' wb D' ∧ D'.bn = D.bn + 1 ∧ ∀ a, a < 6 → ∀ j, D'.U wb a j → (∃ b, b < 6 ∧ D.U wb b j) ∨ w.heap.size ≤ j) ∧ Below base w w' ∧ Keep (fun j => ∃ a, a < 6 ∧ D.U wb a j) w w' := by
  obtain ⟨n2, ls2, NL, ev, fc, fa, ab1, ab2, ab3, ab4, ab5, ab6, ab7⟩ := add_both A base (D.s k) (D.r k) (D.n k) (D.ls k) (D.sv k) (D.L k) (h.pc k hk) (h.le k hk) p hp
  obtain ⟨sk, hsk⟩ : ∃ x, x = D.s k := ⟨_, rfl⟩
  obtain ⟨rk, hrk⟩ : ∃ x, x = D.r k := ⟨_, rfl⟩
  obtain ⟨sv, hsv⟩ : ∃ x, x = D.sv k := ⟨_, rfl⟩
  obtain ⟨Lv, hLv⟩ : ∃ x, x = D.L k := ⟨_, rfl⟩
  have kb := er_al (Below.refl w.heap.size w) (.cells (ocells p) 66)
  have x0 := heap_alloc_new w (.cells (ocells p) 66)
  have hW0 := h.below kb
  rw [← hsk, ← hsv] at ab6
  rw [← hrk, ← hLv] at ab7
  have c0 := hW0.cS hk
  rw [← hsk] at c0
  have k1 : (k : Int) < 2 := by omega
  have k2 : ¬ (2 : Int) ≤ (k : Int) := by omega
  have k3 : (0 : Int) ≤ (k : Int) := by omega
  have AB1 := Bx.mk ab1; have AB2 := Bx.mk ab2; have AB3 := Bx.mk ab3; have AB4 := Bx.mk ab4; have AB5 := Bx.mk ab5; have AB6 := Bx.mk ab6; have AB7 := Bx.mk ab7
  have HSK := Bx.mk hsk; have HRK := Bx.mk hrk; have HSV := Bx.mk hsv; have HLV := Bx.mk hLv; have HP := Bx.mk hp; have HK := Bx.mk hk; have K1 := Bx.mk k1; have K2 := Bx.mk k2; have BN := Bx.mk hbn
  have HE := Bx.mk hE
  have B0 := Bx.mk (kb.mono hbase)
  have BS0 := Bx.mk (Nat.le_trans hbase kb.size)
  have W0L := Bx.mk h.lt
  clear ab1 ab2 ab3 ab4 ab5 ab6 ab7 hsk hrk hsv hLv hp hk hE hbn
  go_enter Tryz.func10, Tryz.ntmps10
  go_upto_region 1 with (fail)
  change Code.wp _ _ _ _ (w.alloc (.cells (ocells p) 66))
  generalize w.alloc (.cells (ocells p) 66) = W at kb x0 hW0 c0 B0 BS0 ⊢
  obtain ⟨N, hN⟩ : ∃ N, N = w.heap.size := ⟨_, rfl⟩
  rw [← hN] at x0 ⊢
  have H0 := Bx.mk hW0; have X0 := Bx.mk x0; have KB := Bx.mk kb; have HN := Bx.mk hN
  have PC : Bx (∀ q : Nat, Calls Tryz.prog 70 #[.pointer (some ⟨sk, 0, none⟩), .agg (ocells p)] (W.drewN q) (fun e w' => ∃ v, e = .returned v ∧ AddG base (W.drewN q) sk sv n2 ls2 NL ev (.returned v) w')) := ⟨fun q => by
    have hb := below_drewN (Below.refl W.heap.size W) q
    have hu := H0.out.below hb
    have hBu := hu.bu k HK.out
    rw [← HSK.out, ← HSV.out] at hBu
    exact (AB6.out _ hBu (Nat.le_trans BS0.out hb.size) (HE.out _ (B0.out.trans (hb.mono BS0.out)))).mono fun e w' hh => by
      obtain ⟨a, c, rfl, rest⟩ := hh
      exact ⟨_, rfl, a, c, rfl, rest⟩⟩
  clear kb x0 hW0 hN h hbase
  refine wp_region_quiet_call (C := fun w' => ∃ k : Nat, w' = W.drewN k) 7 (by kernel_rfl) (by kernel_rfl) ⟨1, rfl⟩ ?_
  simp only [List.take_succ_cons, List.take_zero, List.drop_succ_cons, List.drop_zero]
  iterate 6 go_big_quiet_step (fail)
  refine wpQuiet_load_row rfl 66 (.tmp 5) rfl N rfl 66 (ocells p) (0, 0) _ (by rintro _ ⟨q, rfl⟩; exact ((below_drewN (Below.refl W.heap.size W) q).block N (Array.getElem?_eq_some_iff.1 X0.out).1).trans X0.out) underH rfl (hszL HP.out) ?_
  refine wpQuiet_nil ?_
  rintro _ ⟨q, rfl⟩ _ ho
  cases (show some _ = some _ from ho)
  refine ⟨wanted_none rfl, wp_call_enter 70 #[.pointer (some ⟨sk, 0, none⟩), .agg (ocells p)] (by simp only [execOp]; go_simp) (PC.out q) ?_⟩
  rintro v w1 ⟨a1, c1, hv, ho1, hk1, s1, hB1, hs1⟩
  obtain rfl : v = .tuple #[.slice a1 NL.length c1, ev] := by injection hv
  clear hv PC
  simp only [Act.put, List.setIfInBounds_toArray, List.set_cons_succ, List.set_cons_zero]
  iterate 5 go_big_quiet_step (fail)
  refine wpQuiet_nil ?_
  rintro _ ⟨q2, rfl⟩
  have b3 := below_drewN (Below.refl W.heap.size W) q
  have b4 : Below w1.heap.size w1 (w1.drewN q2) := below_drewN (Below.refl _ _) q2
  have ka : Keep (BuS sk sv) W (w1.drewN q2) := ((Keep.of_below b3 (BuS sk sv)).trans hk1 (fun _ _ h => h)).trans (Keep.of_below b4 (BuS sk sv)) (fun _ _ h => h)
  have hB2 := hB1.below b4
  have ho2 := ownsRow_mono (ownsRow_keep' ho1 fun j hj => b4.block j (ownsRow_lt ho1 j hj)) b3.size
  have hs2 : ∀ j, s1.ownBlock = some j → sv.ownBlock = some j ∨ W.heap.size ≤ j := fun j hj => (hs1 j hj).imp id (fun e => Nat.le_trans b3.size e)
  clear ho1 hk1 hB1 hs1 b3 b4
  generalize w1.drewN q2 = W1 at ka hB2 ho2 ⊢
  have uS : ∀ j, BuS sk sv j → D.U wb k j := fun j hj => (ED.Us HK.out j).2 (by rw [← HSK.out, ← HSV.out]; exact hj)
  have uR : ∀ j, RbS rk Lv j → D.U wb (2 + k) j := fun j hj => (ED.Ur HK.out j).2 (by rw [← HRK.out, ← HLV.out]; exact hj)
  have k2k := HK.out
  have rm0 := H0.out.rb k HK.out
  rw [← HRK.out, ← HLV.out] at rm0
  have rm1 := rm0.keptS ka (fun j hj e => H0.out.dn k (2 + k) (by omega) (by omega) (by omega) j (uS j e) (uR j hj))
  have x1 := (ka.block N (Array.getElem?_eq_some_iff.1 X0.out).1 (fun e => by have := W0L.out k N (uS N e); have := HN.out; omega)).trans X0.out
  have hbk1 : BkP W1 wb (D.bn : Int) D.l := ⟨(ka.block wb H0.out.wblt (fun e => H0.out.dn k 5 (by omega) (by decide) (by omega) wb (uS wb e) rfl)).trans H0.out.bh.bk.hb⟩
  have hrw : rk ≠ wb := fun e => H0.out.dn (2 + k) 5 (by omega) (by decide) (by omega) wb (uR wb (.inl e.symm)) rfl
  have KA := Bx.mk ka; have HB2 := Bx.mk hB2; have O2 := Bx.mk ho2; have S2 := Bx.mk hs2; have US := Bx.mk uS; have UR := Bx.mk uR
  have RM := Bx.mk rm1; have X1 := Bx.mk x1; have BK1 := Bx.mk hbk1; have RW := Bx.mk hrw
  have RL := Bx.mk (rm1.ltS rk (.inl rfl)); have LL := Bx.mk (fun j (hj : Lv.ownBlock = some j) => rm1.ltS j (.inr hj)); have LN := Bx.mk (show ∀ j, Lv.ownBlock = some j → j ≠ rk from fun j hj => rm1.apart j hj)
  have XL := Bx.mk (Array.getElem?_eq_some_iff.1 x1).1
  have NR := Bx.mk (show N ≠ rk from fun e => by have := W0L.out _ _ (uR rk (.inl rfl)); have := HN.out; omega)
  have CR : Bx (∀ u, Keep (fun j => j = rk) W1 u → u.cell? ⟨wb, 2 + k, none⟩ = some (.pointer (some ⟨rk, 0, none⟩))) := ⟨fun u hu => BkP.cR (bn := (D.bn : Int)) (l := D.l) ⟨(hu.block wb (Array.getElem?_eq_some_iff.1 BK1.out.hb).1 (fun e => RW.out e.symm)).trans BK1.out.hb⟩ HK.out ((H0.out.pr k HK.out).trans (by rw [HRK.out]))⟩
  have RK : Bx (∀ u, Keep (fun j => j = rk) W1 u → u.heap[rk]? = W1.heap[rk]? → RbM base u rk (D.n k) (D.ls k) Lv) := ⟨fun u hu e => ⟨e.trans RM.out.hb, RM.out.br, own_keep RM.out.row hu (fun j hj e => LN.out j hj e), RM.out.h32⟩⟩
  have DP := AB7
  have BS := Bx.mk (Nat.le_trans BS0.out ka.size)
  obtain ⟨B, hBB⟩ : ∃ B, B = W1.heap.size := ⟨_, rfl⟩
  have BW := Bx.mk (Nat.le_of_eq hBB); have HB := Bx.mk hBB
  clear ka hB2 ho2 hs2 uS uR rm0 rm1 x1 hbk1 hrw c0 hBB k2k
  go_upto_region 2 with (fail)
  refine wp_region_ownL (n := 48) VAdmk (fun j => if j = rk then some 7 else none) (VAd wb k N rk base B n2 ls2 Lv NL fc fa p) (by kernel_rfl) (by kernel_rfl) rfl (fun j hj => if_neg (by have := RL.out; omega)) (VAd_hmk rk) ?_ ?_ ?_
  · exact fun oi oj v own w own' w' hij _ h r => VAd_mono wb k N rk base B n2 ls2 Lv NL fc fa p oi oj v own w own' w' hij h r
  · intro oi o hi f u own hsame hsn hfr hlate hkeep8 hdep
    have hkeep := hkeep8 _ (.inl rfl)
    have hkp : Keep (fun j => j = rk) W1 u := ⟨hsn.os, hsn.tape, hsn.output, hsn.size, fun j hj hn => hsn.keep j hj (if_neg hn)⟩
    match oi, hi with
    | 0, hi =>
      cases (show some _ = some o from hi)
      have e0 : f.tmps.getD 0 undef = .pointer (some ⟨wb, 0, none⟩) := hsame.slot 0 (fun i o h => invB2_not 0 (by kernel_rfl) h)
      clear hdep hsame hi hlate hfr hkeep
      exact .inl ⟨wanted_none rfl, showsO_move hsn rfl _ rfl e0⟩
    | 1, hi =>
      cases (show some _ = some o from hi)
      have e1 : f.tmps.getD 1 undef = .int .i64 (k : Int) := hsame.slot 1 (fun i o h => invB2_not 1 (by kernel_rfl) h)
      clear hdep hsame hi hlate hfr hkeep
      exact .inl ⟨wanted_none rfl, showsO_move hsn rfl _ rfl e1⟩
    | 2, hi =>
      cases (show some _ = some o from hi)
      have e23 : (f.tmps.getD 23 undef) = .pointer (some ⟨wb, 0, none⟩) := depO (V := (VAd wb k N rk base B n2 ls2 Lv NL fc fa p)) hdep 0 23 (by kernel_rfl) (by kernel_rfl)
      clear hdep hsame hi hlate hfr hkeep
      exact .inl ⟨wanted_none rfl, showsO_pure hsn rfl (.pointer (some ⟨wb, 0, none⟩)) (by simp only [execOp, Act.eval]; go_simp) rfl⟩
    | 3, hi =>
      cases (show some _ = some o from hi)
      have e25 : (f.tmps.getD 25 undef) = .pointer (some ⟨wb, 0, none⟩) := depO (V := (VAd wb k N rk base B n2 ls2 Lv NL fc fa p)) hdep 2 25 (by kernel_rfl) (by kernel_rfl)
      clear hdep hsame hi hlate hfr hkeep
      exact .inl ⟨wanted_none rfl, showsO_pure hsn rfl (.pointer (some ⟨wb, 2, none⟩)) (by simp only [execOp, Act.eval]; go_simp) rfl⟩
    | 4, hi =>
      cases (show some _ = some o from hi)
      have e24 : (f.tmps.getD 24 undef) = .int .i64 (k : Int) := depO (V := (VAd wb k N rk base B n2 ls2 Lv NL fc fa p)) hdep 1 24 (by kernel_rfl) (by kernel_rfl)
      have e26 : (f.tmps.getD 26 undef) = .pointer (some ⟨wb, 2, none⟩) := depO (V := (VAd wb k N rk base B n2 ls2 Lv NL fc fa p)) hdep 3 26 (by kernel_rfl) (by kernel_rfl)
      clear hdep hsame hi hlate hfr hkeep
      have k1 := K1.out
      have k2 := K2.out
      exact .inl ⟨wanted_none rfl, showsO_pure hsn rfl (.pointer (some ⟨wb, 2 + k, none⟩)) (by simp only [execOp, Act.eval]; go_simp) rfl⟩
    | 5, hi =>
      cases (show some _ = some o from hi)
      have e27 : (f.tmps.getD 27 undef) = .pointer (some ⟨wb, 2 + k, none⟩) := depO (V := (VAd wb k N rk base B n2 ls2 Lv NL fc fa p)) hdep 4 27 (by kernel_rfl) (by kernel_rfl)
      clear hdep hsame hi hlate hfr hkeep
      have c28 := CR.out u hkp
      exact .inl ⟨wanted_none rfl, showsO_pure hsn rfl (.pointer (some ⟨rk, 0, none⟩)) (by simp only [execOp, Act.eval]; go_simp) rfl⟩
    | 6, hi =>
      cases (show some _ = some o from hi)
      have e5 : f.tmps.getD 5 undef = .pointer (some ⟨N, 0, none⟩) := hsame.slot 5 (fun i o h => invB2_not 5 (by kernel_rfl) h)
      clear hdep hsame hi hlate hfr hkeep
      exact .inl ⟨wanted_none rfl, showsO_row hsn rfl 66 (.tmp 5) rfl N e5 (ocells p) ((hkp.block N XL.out NR.out).trans X1.out) underH rfl (hszL HP.out) rfl⟩
    | 7, hi =>
      cases (show some _ = some o from hi)
      have e28 : (f.tmps.getD 28 undef) = .pointer (some ⟨rk, 0, none⟩) := depO (V := (VAd wb k N rk base B n2 ls2 Lv NL fc fa p)) hdep 5 28 (by kernel_rfl) (by kernel_rfl)
      have e29 : (f.tmps.getD 29 undef) = .agg (ocells (p)) := depO (V := (VAd wb k N rk base B n2 ls2 Lv NL fc fa p)) hdep 6 29 (by kernel_rfl) (by kernel_rfl)
      clear hdep hsame hi hlate hfr hkeep
      exact .inl ⟨wanted_none rfl, showsO_callW rfl 71 #[.pointer (some ⟨rk, 0, none⟩), .agg (ocells p)] (by simp only [execOp, Act.eval]; go_simp) ((DP.out u (RK.out u hkp (hkeep8 7 (.inl rfl) rk RL.out (if_pos rfl))) (Nat.le_trans BS.out hsn.size)).mono fun e w' ⟨a, c, he, h1, h2, L', h3, h4⟩ => ⟨_, he, Rel.keep_ _ 7 hsn h2 (fun q _ hb => by subst hb; exact (hsn.owns _ RL.out).trans (if_pos rfl)) rfl, ⟨_, rfl, a, c, rfl, ownsRow_mono h1 (Nat.le_trans BW.out hsn.size), fun j hj => hsn.top j (ownsRow_fresh h1 j hj)⟩, (hsn.owns rk RL.out).trans (if_pos rfl), L', h3, fun j hj => (h4 j hj).elim (fun hl => ⟨(hsn.owns j (LL.out j hl)).trans (if_neg (LN.out j hl)), .inl hl⟩) (fun hl => ⟨hsn.top j hl, .inr (Nat.le_trans BW.out (Nat.le_trans hsn.size hl))⟩)⟩)⟩
    | 8, hi =>
      cases (show some _ = some o from hi)
      have e30 : AllV own u (f.tmps.getD 30 undef) base B rk n2 ls2 Lv NL fc fa := depO (V := (VAd wb k N rk base B n2 ls2 Lv NL fc fa p)) hdep 7 30 (by kernel_rfl) (by kernel_rfl)
      clear hdep hsame hi hlate hfr hkeep
      exact .inl ⟨wanted_none rfl, showsO_move hsn rfl _ rfl e30.1⟩
    | 9, hi =>
      cases (show some _ = some o from hi)
      have e22 : TupV own u (f.tmps.getD 22 undef) B NL fc fa := depO (V := (VAd wb k N rk base B n2 ls2 Lv NL fc fa p)) hdep 8 22 (by kernel_rfl) (by kernel_rfl)
      clear hdep hsame hi hlate hfr hkeep
      obtain ⟨x22, e22, N22⟩ := e22
      exact .inl ⟨wanted_none rfl, showsO_pure hsn rfl x22 (by simp only [execOp, Act.eval]; go_simp) N22⟩
    | 10, hi =>
      cases (show some _ = some o from hi)
      have e22 : TupV own u (f.tmps.getD 22 undef) B NL fc fa := depO (V := (VAd wb k N rk base B n2 ls2 Lv NL fc fa p)) hdep 8 22 (by kernel_rfl) (by kernel_rfl)
      clear hdep hsame hi hlate hfr hkeep
      obtain ⟨x22, e22, N22⟩ := e22
      exact .inl ⟨wanted_none rfl, showsO_pure hsn rfl (.agg #[.int .i64 fc, .int .i64 fa]) (by simp only [execOp, Act.eval]; go_simp) rfl⟩
    | 11, hi =>
      cases (show some _ = some o from hi)
      clear hdep hsame hi hlate hkeep
      exact .inl ⟨wanted_none rfl, showsO_alloc hsn hfr rfl #[.int .i64 0, .int .i64 0] 73 13 rfl (by simp only [execOp, Act.eval]; go_simp <;> rfl) (fun h => h)⟩
    | 12, hi =>
      cases (show some _ = some o from hi)
      have e31 : NodV own u (f.tmps.getD 31 undef) B NL := depO (V := (VAd wb k N rk base B n2 ls2 Lv NL fc fa p)) hdep 9 31 (by kernel_rfl) (by kernel_rfl)
      clear hdep hsame hi hlate hfr hkeep
      exact .inl ⟨wanted_none rfl, showsO_assign hsn rfl _ rfl e31⟩
    | 13, hi =>
      cases (show some _ = some o from hi)
      have e10 : AllocV own u (f.tmps.getD 10 undef) 13 73 2 := depO (V := (VAd wb k N rk base B n2 ls2 Lv NL fc fa p)) hdep 11 10 (by kernel_rfl) (by kernel_rfl)
      have e32 : (f.tmps.getD 32 undef) = .agg #[.int .i64 fc, .int .i64 fa] := depO (V := (VAd wb k N rk base B n2 ls2 Lv NL fc fa p)) hdep 10 32 (by kernel_rfl) (by kernel_rfl)
      clear hdep hsame hi hlate hfr hkeep
      exact .inl ⟨wanted_none rfl, showsO_store_alloc hsn rfl 73 (.tmp 10) (.tmp 32) rfl e10 #[.int .i64 fc, .int .i64 fa] e32 (by kernel_rfl) rfl (by simp [Value.oneCell']) (fun _ h => h)⟩
    | n + 14, hi => exact absurd hi (by simp)
  · intro f W2 own hsame hsn hall
    have q23 : f.tmps.getD 23 undef = .pointer (some ⟨wb, 0, none⟩) := finO (V := (VAd wb k N rk base B n2 ls2 Lv NL fc fa p)) hall 0 23 rfl
    have q24 : f.tmps.getD 24 undef = .int .i64 (k : Int) := finO (V := (VAd wb k N rk base B n2 ls2 Lv NL fc fa p)) hall 1 24 rfl
    have q25 : f.tmps.getD 25 undef = .pointer (some ⟨wb, 0, none⟩) := finO (V := (VAd wb k N rk base B n2 ls2 Lv NL fc fa p)) hall 2 25 rfl
    have q26 : f.tmps.getD 26 undef = .pointer (some ⟨wb, 2, none⟩) := finO (V := (VAd wb k N rk base B n2 ls2 Lv NL fc fa p)) hall 3 26 rfl
    have q27 : f.tmps.getD 27 undef = .pointer (some ⟨wb, 2 + k, none⟩) := finO (V := (VAd wb k N rk base B n2 ls2 Lv NL fc fa p)) hall 4 27 rfl
    have q28 : f.tmps.getD 28 undef = .pointer (some ⟨rk, 0, none⟩) := finO (V := (VAd wb k N rk base B n2 ls2 Lv NL fc fa p)) hall 5 28 rfl
    have q29 : f.tmps.getD 29 undef = .agg (ocells (p)) := finO (V := (VAd wb k N rk base B n2 ls2 Lv NL fc fa p)) hall 6 29 rfl
    obtain ⟨⟨x30, q30, N30⟩, RB30⟩ := finO (V := (VAd wb k N rk base B n2 ls2 Lv NL fc fa p)) hall 7 30 rfl
    obtain ⟨x22, q22, N22⟩ := finO (V := (VAd wb k N rk base B n2 ls2 Lv NL fc fa p)) hall 8 22 rfl
    obtain ⟨a31, c31, q31, N31⟩ := finO (V := (VAd wb k N rk base B n2 ls2 Lv NL fc fa p)) hall 9 31 rfl
    have q32 : f.tmps.getD 32 undef = .agg #[.int .i64 fc, .int .i64 fa] := finO (V := (VAd wb k N rk base B n2 ls2 Lv NL fc fa p)) hall 10 32 rfl
    obtain ⟨g10, q10, o10, m10⟩ := AllocV.stored (finO (V := (VAd wb k N rk base B n2 ls2 Lv NL fc fa p)) hall 11 10 rfl) (finN (V := (VAd wb k N rk base B n2 ls2 Lv NL fc fa p)) hall 13 rfl)
    obtain ⟨a9, c9, q9, N9⟩ := finO (V := (VAd wb k N rk base B n2 ls2 Lv NL fc fa p)) hall 12 9 rfl
    rw [q9] at N9
    obtain rfl := frame_eq hsame [(23, .pointer (some ⟨wb, 0, none⟩)), (24, .int .i64 (k : Int)), (25, .pointer (some ⟨wb, 0, none⟩)), (26, .pointer (some ⟨wb, 2, none⟩)), (27, .pointer (some ⟨wb, 2 + k, none⟩)), (28, .pointer (some ⟨rk, 0, none⟩)), (29, .agg (ocells (p))), (30, (.tuple #[x30, .agg #[.int .i64 fc, .int .i64 fa]])), (22, (.tuple #[x22, .agg #[.int .i64 fc, .int .i64 fa]])), (31, (.slice a31 NL.length c31)), (32, .agg #[.int .i64 fc, .int .i64 fa]), (10, .pointer (some ⟨g10, 0, none⟩)), (9, (.slice a9 NL.length c9))] (by kernel_rfl) ⟨q23, q24, q25, q26, q27, q28, q29, q30, q22, q31, q32, q10, q9, trivial⟩
    clear hall hsame q23 q24 q25 q26 q27 q28 q29 q30 q22 q31 q32 q10 q9
    simp only [List.foldl, List.setIfInBounds_toArray, List.set_cons_succ, List.set_cons_zero]
    have kp2 : Keep (fun j => j = rk) W1 W2 := ⟨hsn.os, hsn.tape, hsn.output, hsn.size, fun j hj hn => hsn.keep j hj (if_neg hn)⟩
    obtain ⟨-, L2, hM2, hL2⟩ := RB30
    obtain ⟨ho9, -⟩ := N9
    have v1lt : ∀ j, (Value.slice a1 NL.length c1).ownBlock = some j → W.heap.size ≤ j ∧ j < W1.heap.size := fun j hj => ⟨ownsRow_fresh O2.out j hj, ownsRow_lt O2.out j hj⟩
    have o1 := own_keep O2.out kp2 (fun j hj e => by have h1 := v1lt j hj; have h2 : j = rk := e; have h3 := W0L.out (2 + k) rk (UR.out rk (.inl rfl)); have h4 := KB.out.size; omega)
    have hEW := EW.put (l' := D.l) (n' := n2) (ls' := ls2) (sv' := s1) (L' := L2) (w' := W2) (s' := sk) (r' := rk) H0.out HK.out
      ((KA.out.mono (S' := fun j => j = wb ∨ D.U wb k j ∨ D.U wb (2 + k) j) (fun j _ e => .inr (.inl (US.out j e)))).trans (kp2.mono (S' := fun j => j = wb ∨ D.U wb k j ∨ D.U wb (2 + k) j) (fun j _ e => .inr (.inr (UR.out j (.inl e))))) (fun _ _ h => h))
      ⟨(kp2.block wb (Array.getElem?_eq_some_iff.1 BK1.out.hb).1 (fun e => RW.out e.symm)).trans BK1.out.hb⟩ (fun _ _ _ => rfl) ((H0.out.ps k HK.out).trans (by rw [HSK.out])) ((H0.out.pr k HK.out).trans (by rw [HRK.out]))
      (HB2.out.kept kp2 (fun j hj e => by
        have e : j = rk := e
        subst e
        have h3 := W0L.out (2 + k) j (UR.out j (.inl rfl))
        rcases hj with hj | hj
        · exact H0.out.dn k (2 + k) (by have := HK.out; omega) (by have := HK.out; omega) (by omega) j (US.out j (.inl hj)) (UR.out j (.inl rfl))
        · rcases S2.out j hj with hj | hj
          · exact H0.out.dn k (2 + k) (by have := HK.out; omega) (by have := HK.out; omega) (by omega) j (US.out j (.inr hj)) (UR.out j (.inl rfl))
          · have := KB.out.size; omega))
      hM2 AB1.out AB2.out
      (fun j hj => by
        rcases hj with hj | hj
        · exact .inl (US.out j (.inl hj))
        · exact (S2.out j hj).imp (fun h => US.out j (.inr h)) id)
      (fun j hj => by
        rcases hj with hj | hj
        · exact .inl (UR.out j (.inl hj))
        · rcases (hL2 j hj).2 with h | h
          · exact .inl (UR.out j (.inr h))
          · exact .inr (Nat.le_trans KA.out.size (HB.out ▸ h)))
      (fun j hj hj2 => by
        have hsz := KB.out.size
        have q1 : j < W1.heap.size := HB2.out.lt j hj
        have q2 : D.U wb k j ∨ W.heap.size ≤ j := by
          rcases hj with hj | hj
          · exact .inl (US.out j (.inl hj))
          · exact (S2.out j hj).imp (fun h => US.out j (.inr h)) id
        have q3 : D.U wb (2 + k) j ∨ W1.heap.size ≤ j := by
          rcases hj2 with hj | hj
          · exact .inl (UR.out j (.inl hj))
          · rcases (hL2 j hj).2 with h | h
            · exact .inl (UR.out j (.inr h))
            · exact .inr (HB.out ▸ h)
        rcases q3 with q3 | q3
        · rcases q2 with q2 | q2
          · exact H0.out.dn k (2 + k) (by have := HK.out; omega) (by have := HK.out; omega) (by omega) j q2 q3
          · have := W0L.out _ _ q3; omega
        · omega)
    obtain ⟨D1, hD1⟩ : ∃ D1, D1 = D.put k sk rk n2 ls2 s1 L2 D.l := ⟨_, rfl⟩
    rw [← hD1] at hEW
    have hvs : ∀ j, (Value.slice a1 NL.length c1).ownBlock = some j → ∀ a, a < 6 → ¬ D1.U wb a j := fun j hj a ha e => by
      rw [hD1] at e
      have hsz := KB.out.size
      obtain ⟨q1, q2⟩ := v1lt j hj
      rcases ED.U_put rfl rfl a ha j e with e | e | e
      · have := W0L.out _ _ e; omega
      · rcases e with e | e
        · have := W0L.out _ _ (US.out j (.inl e)); omega
        · exact own_apartE O2.out HB2.out.own (by decide) j hj e
      · rcases e with e | e
        · have := W0L.out _ _ (UR.out j (.inl e)); omega
        · rcases (hL2 j e).2 with h | h
          · have := W0L.out _ _ (UR.out j (.inr h)); omega
          · have := HB.out; omega
    have HEW := Bx.mk hEW; have HVS := Bx.mk hvs; have R1 := Bx.mk o1; have R9 := Bx.mk ho9
    have E1 := Bx.mk (show D1.bn = D.bn ∧ D1.l = D.l by rw [hD1]; exact ⟨rfl, rfl⟩)
    have UD := Bx.mk (show ∀ a, a < 6 → ∀ j, D1.U wb a j → (∃ b, b < 6 ∧ D.U wb b j) ∨ w.heap.size ≤ j from fun a ha j e => by
      rw [hD1] at e
      have hsz := KB.out.size
      have hk2 := HK.out
      rcases ED.U_put rfl rfl a ha j e with e | e | e
      · exact .inl ⟨a, ha, e⟩
      · rcases e with e | e
        · exact .inl ⟨k, by omega, US.out j (.inl e)⟩
        · rcases S2.out j e with h | h
          · exact .inl ⟨k, by omega, US.out j (.inr h)⟩
          · exact .inr (Nat.le_trans hsz h)
      · rcases e with e | e
        · exact .inl ⟨2 + k, by omega, UR.out j (.inl e)⟩
        · rcases (hL2 j e).2 with h | h
          · exact .inl ⟨2 + k, by omega, UR.out j (.inr h)⟩
          · exact .inr (Nat.le_trans (Nat.le_trans hsz KA.out.size) (HB.out ▸ h)))
    have KKP := Bx.mk (show Keep (fun j => ∃ a, a < 6 ∧ D.U wb a j) w W2 from ((Keep.of_below KB.out (fun j => ∃ a, a < 6 ∧ D.U wb a j)).trans (KA.out.mono (S' := fun j => ∃ a, a < 6 ∧ D.U wb a j) (fun j _ e => ⟨k, by have := HK.out; omega, US.out j e⟩)) (fun _ _ h => h)).trans (kp2.mono (S' := fun j => ∃ a, a < 6 ∧ D.U wb a j) (fun j _ e => ⟨2 + k, by have := HK.out; omega, UR.out j (.inl e)⟩)) (fun _ _ h => h))
    have B2 := Bx.mk ((B0.out.trans (KA.out.below (B := base) BS0.out (fun j e => H0.out.ge k j (US.out j e)))).trans (kp2.below (B := base) BS.out (fun j e => H0.out.ge (2 + k) j (UR.out j (.inl e)))))
    have SZ2 := Bx.mk (Nat.le_trans BS.out kp2.size)
    have V1F := Bx.mk (fun j (hj : (Value.slice a1 NL.length c1).ownBlock = some j) => (v1lt j hj).1)
    have d0 := er_cellAt m10 0 _ rfl; have d1 := er_cellAt m10 1 _ rfl
    clear N30 N22 N31 kp2 hM2 hL2 ho9 v1lt o1 hEW hvs hD1 hsn o10 m10 HB2 O2 S2 RM X1 BK1 CR RK
    go_wp2_with fail
    refine (AB5.out W2 (HE.out W2 B2.out).hs.err).mono ?_
    rintro e W3 ⟨rfl, hb⟩
    have T1 := Bx.mk (ownsRow_keep' R1.out fun j hj => hb.block j (ownsRow_lt R1.out j hj)); have T9 := Bx.mk (ownsRow_keep' R9.out fun j hj => hb.block j (ownsRow_lt R9.out j hj))
    have H3 := Bx.mk (HEW.out.below hb); have B3 := Bx.mk (B2.out.trans (hb.mono SZ2.out)); have SZ3 := Bx.mk (Nat.le_trans SZ2.out hb.size); have B23 := Bx.mk hb
    have nss1 : Nss W3 (.slice a1 NL.length c1) NL := nss_own T1.out AB4.out rfl
    have nss9 : Nss W3 (.slice a9 NL.length c9) NL := nss_own T9.out AB4.out rfl
    have cn := sameN_any W3 a1 NL.length c1 NL a9 NL.length c9 NL nss1 nss9
    rw [show (NL == NL) = true from beq_self_eq_true NL] at cn
    have CN := Bx.mk cn
    clear nss1 nss9 cn
    clear hb R1 R9 d0 d1
    go_wp2_with fail
    refine CN.out.mono ?_
    rintro e W4 ⟨rfl, hb⟩
    have U1 := Bx.mk (ownsRow_mono (ownsRow_keep' T1.out fun j hj => hb.block j (ownsRow_lt T1.out j hj)) (Nat.le_trans BS0.out (Nat.le_refl _)))
    have H4 := Bx.mk (H3.out.below hb); have B4 := Bx.mk (B3.out.trans (hb.mono SZ3.out)); have SZ4 := Bx.mk (Nat.le_trans SZ3.out hb.size)
    have B24 := Bx.mk (B23.out.trans (hb.mono B23.out.size)); have S24 := Bx.mk (Nat.le_trans B23.out.size hb.size)
    have CB := Bx.mk (bnodeE_any base W4 wb D1 H4.out SZ4.out (by have := BN.out; have := E1.out.1; omega) a1 c1 NL.length _ U1.out HVS.out AB3.out)
    clear hb CN T1 T9
    go_wp2_with fail
    refine CB.out.mono ?_
    rintro e W5 ⟨rfl, x5, hE5, hk5, hu5⟩
    have b5 := hk5.below (B := base) SZ4.out (fun j e => by
      rcases e with e | e
      · exact H4.out.ge 5 j e
      · exact H4.out.ge 4 j (.inr (.inr (.inr e))))
    have k5 := hk5.mono (S' := fun j => ∃ a, a < 6 ∧ D.U wb a j) (fun j _ e => by
      rcases e with e | e
      · exact ⟨5, by decide, e⟩
      · exact ⟨4, by decide, .inr (.inr (.inr (by rw [← E1.out.2]; exact e)))⟩)
    have FIN : Bx ((∃ D', EW base W5 wb D' ∧ D'.bn = D.bn + 1 ∧ ∀ a, a < 6 → ∀ j, D'.U wb a j → (∃ b, b < 6 ∧ D.U wb b j) ∨ w.heap.size ≤ j) ∧ Below base w W5 ∧ Keep (fun j => ∃ a, a < 6 ∧ D.U wb a j) w W5) := ⟨⟨_, hE5, by show D1.bn + 1 = _; rw [E1.out.1], fun a ha j e => by
      rcases hu5 a ha j e with e | e | e
      · exact UD.out a ha j e
      · exact .inr (Nat.le_trans KB.out.size (V1F.out j e))
      · exact .inr (Nat.le_trans (KKP.out.size) (Nat.le_trans S24.out e))⟩, B4.out.trans b5, (KKP.out.trans (Keep.of_below B24.out _) (fun _ _ h => h)).trans k5 (fun _ _ h => h)⟩
    clear b5 k5 hu5
    clear hE5 hk5 CB
    go_wp2_with fail
    go_ret
    exact ⟨rfl, FIN.out⟩
end Go.Proofs.YtbhcaalelfaceaaGreatDoor.K2
