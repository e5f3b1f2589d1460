/- cartularylaw10: the book of the world, and what is looked at. -/
import Derived.Test.YtbhcaalelfaceaaGreatDoorReD
import Derived.Test.YtbhcaalelfaceaaGreatDoorW1
import Derived.Test.YtbhcaalelfaceaaGreatDoorW2
namespace Go.Proofs.YtbhcaalelfaceaaGreatDoor
set_option maxRecDepth 100000
open Go.RowKit
/-- tables and errors -/
structure Ec (A : Nat → Addr) (w : World) : Prop where
  hs : Hs A w
  tz : TabZ w
  lt : 4 < w.heap.size
theorem Ec.below {A : Nat → Addr} {w w' : World} (h : Ec A w) (k : Below w.heap.size w w') : Ec A w' := ⟨h.hs.below k, h.tz.below h.lt k, Nat.lt_of_lt_of_le h.lt k.size⟩
theorem ED.U_addHash {D : ED} {wb z : Nat} {x v : Value} {nv : Nat} {xs : List Value} (hx : ∀ k, x.ownBlock = some k → k ≠ wb ∧ ((D.l 5).ownBlock = some k ∨ z ≤ k)) (a : Nat) (ha : a < 6) (j : Nat) (hj : (D.addHash x v nv xs).U wb a j) : D.U wb a j ∨ v.ownBlock = some j ∨ z ≤ j := by
  match a, ha, hj with
  | 0, _, hj => exact .inl hj
  | 1, _, hj => exact .inl hj
  | 2, _, hj => exact .inl hj
  | 3, _, hj => exact .inl hj
  | 5, _, hj => exact .inl hj
  | 4, _, hj =>
    have hj : (D.addHash x v nv xs).B j := hj
    have hq : ∀ i, i < D.m0 + 1 → (updF D.V0 D.m0 v i).ownBlock = some j → D.U wb 4 j ∨ v.ownBlock = some j ∨ z ≤ j := fun i hi e => by
      by_cases ei : i = D.m0
      · subst ei
        rw [updF_at] at e
        exact .inr (.inl e)
      · rw [updF_ne ei] at e
        exact .inl (.inl ⟨i, by omega, e⟩)
    have hl : (updK D.l 5 x 5).ownBlock = some j → D.U wb 4 j ∨ v.ownBlock = some j ∨ z ≤ j := fun e => by
      rw [show updK D.l 5 x 5 = x from if_pos rfl] at e
      rcases (hx j e).2 with h1 | h1
      · exact .inl (.inr (.inl h1))
      · exact .inr (.inr h1)
    rcases hj with ⟨i, hi, e⟩ | e | ⟨i, hi, e⟩ | e
    · exact hq i hi e
    · exact hl e
    · exact .inl (.inr (.inr (.inl ⟨i, hi, e⟩)))
    · exact .inl (.inr (.inr (.inr e)))
theorem bhashE_any (base : Nat) (w : World) (wb : Nat) (D : ED) (h : EW base w wb D) (hbase : base ≤ w.heap.size) (hbn : D.bn ≤ 100000000) (va : Option Addr) (vc nv : Nat) (xs : List Value) (hv : w.ownsRow base 66 32 (.slice va nv vc) nv xs) (hvs : ∀ j, (Value.slice va nv vc).ownBlock = some j → ∀ a, a < 6 → ¬ D.U wb a j) (hN : nv ≤ 64) :
    Calls Tryz.prog 18 #[.pointer (some ⟨wb, 4, none⟩), .slice va nv vc] w fun e w' => e = .returned (.tuple #[]) ∧ ∃ x, EW base w' wb (D.addHash x (.slice va nv vc) nv xs) ∧ Keep (fun j => j = wb ∨ (D.l 5).ownBlock = some j) w w' ∧ ∀ a, a < 6 → ∀ j, (D.addHash x (.slice va nv vc) nv xs).U wb a j → D.U wb a j ∨ (Value.slice va nv vc).ownBlock = some j ∨ w.heap.size ≤ j := by
  have C := Bx.mk (keepHash_any base w wb D.bn D.l D.m0 _ h.bh.bk h.bh.row (by have := h.cm; omega) hbn (fun j hj e => h.dn 4 5 (by decide) (by decide) (by decide) j (.inr (.inl hj)) e) hbase va nv vc)
  have H := Bx.mk (fun (w' : World) (x : Value) (hP : BkP w' wb ((D.bn + 1 : Nat) : Int) (updK D.l 5 x)) hO hk hx => And.intro (EW.addHash (w' := w') (x := x) h hk hP hO hx hv hvs hN) (ED.U_addHash (wb := wb) (v := .slice va nv vc) (nv := nv) (xs := xs) hx))
  clear h hbase hbn hv hvs hN
  go_enter Tryz.func18, Tryz.ntmps18
  go_wp2_with fail
  refine C.out.mono ?_
  rintro e w1 ⟨rfl, x, hP, hO, hk, hx⟩
  have R := Bx.mk (H.out w1 x hP hO hk hx); have KK := Bx.mk hk
  clear hP hO hk hx C H
  go_wp2_with fail
  go_end0
  exact ⟨rfl, x, R.out.1, KK.out, R.out.2⟩
theorem ED.U_addNode {D : ED} {wb z : Nat} {x v : Value} {nv : Nat} {xs : List Value} (hx : ∀ k, x.ownBlock = some k → k ≠ wb ∧ ((D.l 8).ownBlock = some k ∨ z ≤ k)) (a : Nat) (ha : a < 6) (j : Nat) (hj : (D.addNode x v nv xs).U wb a j) : D.U wb a j ∨ v.ownBlock = some j ∨ z ≤ j := by
  match a, ha, hj with
  | 0, _, hj => exact .inl hj
  | 1, _, hj => exact .inl hj
  | 2, _, hj => exact .inl hj
  | 3, _, hj => exact .inl hj
  | 5, _, hj => exact .inl hj
  | 4, _, hj =>
    have hj : (D.addNode x v nv xs).B j := hj
    have hq : ∀ i, i < D.m1 + 1 → (updF D.V1 D.m1 v i).ownBlock = some j → D.U wb 4 j ∨ v.ownBlock = some j ∨ z ≤ j := fun i hi e => by
      by_cases ei : i = D.m1
      · subst ei
        rw [updF_at] at e
        exact .inr (.inl e)
      · rw [updF_ne ei] at e
        exact .inl (.inr (.inr (.inl ⟨i, by omega, e⟩)))
    have hl : (updK D.l 8 x 8).ownBlock = some j → D.U wb 4 j ∨ v.ownBlock = some j ∨ z ≤ j := fun e => by
      rw [show updK D.l 8 x 8 = x from if_pos rfl] at e
      rcases (hx j e).2 with h1 | h1
      · exact .inl (.inr (.inr (.inr h1)))
      · exact .inr (.inr h1)
    rcases hj with ⟨i, hi, e⟩ | e | ⟨i, hi, e⟩ | e
    · exact .inl (.inl ⟨i, hi, e⟩)
    · exact .inl (.inr (.inl e))
    · exact hq i hi e
    · exact hl e
theorem bnodeE_any (base : Nat) (w : World) (wb : Nat) (D : ED) (h : EW base w wb D) (hbase : base ≤ w.heap.size) (hbn : D.bn ≤ 100000000) (va : Option Addr) (vc nv : Nat) (xs : List Value) (hv : w.ownsRow base 130 34 (.slice va nv vc) nv xs) (hvs : ∀ j, (Value.slice va nv vc).ownBlock = some j → ∀ a, a < 6 → ¬ D.U wb a j) (hN : nv ≤ 65) :
    Calls Tryz.prog 73 #[.pointer (some ⟨wb, 4, none⟩), .slice va nv vc] w fun e w' => e = .returned (.tuple #[]) ∧ ∃ x, EW base w' wb (D.addNode x (.slice va nv vc) nv xs) ∧ Keep (fun j => j = wb ∨ (D.l 8).ownBlock = some j) w w' ∧ ∀ a, a < 6 → ∀ j, (D.addNode x (.slice va nv vc) nv xs).U wb a j → D.U wb a j ∨ (Value.slice va nv vc).ownBlock = some j ∨ w.heap.size ≤ j := by
  have C := Bx.mk (keepNode_any base w wb D.bn D.l D.m1 _ h.bh.bk h.bd.row (by have := h.cm; omega) hbn (fun j hj e => h.dn 4 5 (by decide) (by decide) (by decide) j (.inr (.inr (.inr hj))) e) hbase va nv vc)
  have H := Bx.mk (fun (w' : World) (x : Value) (hP : BkP w' wb ((D.bn + 1 : Nat) : Int) (updK D.l 8 x)) hO hk hx => And.intro (EW.addNode (w' := w') (x := x) h hk hP hO hx hv hvs hN) (ED.U_addNode (wb := wb) (v := .slice va nv vc) (nv := nv) (xs := xs) hx))
  clear h hbase hbn hv hvs hN
  go_enter Tryz.func73, Tryz.ntmps73
  go_wp2_with fail
  refine C.out.mono ?_
  rintro e w1 ⟨rfl, x, hP, hO, hk, hx⟩
  have R := Bx.mk (H.out w1 x hP hO hk hx); have KK := Bx.mk hk
  clear hP hO hk hx C H
  go_wp2_with fail
  go_end0
  exact ⟨rfl, x, R.out.1, KK.out, R.out.2⟩
def VL7 (sk rk _wb m n c1 c2 cL : Nat) (a1 a2 aL : Option Addr) (R : List UInt8) (oi : Nat) (v : Value) (_own : Nat → Option Nat) (_w : World) : Prop :=
  match oi with
  | 0 => v = .pointer (some ⟨sk, 0, none⟩)
  | 1 => v = .int .u64 (n : Int)
  | 2 => v = .pointer (some ⟨rk, 0, none⟩)
  | 3 => v = .pointer (some ⟨rk, 0, none⟩)
  | 4 => v = .pointer (some ⟨rk, 0, none⟩)
  | 5 => v = .int .u64 (n : Int)
  | 6 => v = .bool true
  | 7 => v = .bool true
  | 8 => v = .pointer (some ⟨sk, 0, none⟩)
  | 9 => v = .agg (ocells (R))
  | 10 => v = .pointer (some ⟨rk, 0, none⟩)
  | 11 => v = .agg (ocells (R))
  | 12 => v = .bool true
  | 13 => v = .bool true
  | 14 => v = .bool true
  | 15 => v = .slice a1 m c1
  | 16 => v = .pointer (some ⟨rk, 0, none⟩)
  | 17 => v = .pointer (some ⟨rk, 0, none⟩)
  | 18 => v = .pointer (some ⟨rk, 1, none⟩)
  | 19 => v = .slice aL m cL
  | 20 => v = .bool true
  | 21 => v = .bool true
  | 22 => v = .bool true
  | 23 => v = .slice a2 m c2
  | 24 => v = .pointer (some ⟨rk, 0, none⟩)
  | 25 => v = .pointer (some ⟨rk, 0, none⟩)
  | 26 => v = .pointer (some ⟨rk, 1, none⟩)
  | 27 => v = .slice aL m cL
  | 28 => v = .bool true
  | 29 => v = .bool true
  | 30 => v = .bool true
  | _ => True
def VL7mk : Nat → Option Nat := fun _ => none
theorem VL7_mono (sk rk wb m n c1 c2 cL : Nat) (a1 a2 aL : Option Addr) (R : List UInt8) (oi oj : Nat) (v : Value) (own : Nat → Option Nat) (w : World) (own' : Nat → Option Nat) (w' : World) (hij : oi ≠ oj)   (h : VL7 sk rk wb m n c1 c2 cL a1 a2 aL R oj v own w) (_r : Rel VL7mk oi own w own' w') : VL7 sk rk wb m n c1 c2 cL a1 a2 aL R oj v own' w' := by
  unfold VL7 at h ⊢
  split at h
  · exact h
  · exact h
  · exact h
  · exact h
  · exact h
  · exact h
  · exact h
  · exact h
  · exact h
  · exact h
  · exact h
  · exact h
  · exact h
  · exact h
  · exact h
  · exact h
  · exact h
  · exact h
  · exact h
  · exact h
  · exact h
  · exact h
  · exact h
  · exact h
  · exact h
  · exact h
  · exact h
  · exact h
  · exact h
  · exact h
  · exact h
  · trivial

set_option maxHeartbeats 3200000 in
theorem looks10_any (A : Nat → Addr) (base : Nat) (w : World) (wb : Nat) (D : ED) (h : EW base w wb D) (hbase : base ≤ w.heap.size) (hE : ∀ u, Below base w u → Ec A u) (hbn : D.bn ≤ 90000000) (k : Nat) (hk : k < 2) :
    Calls Tryz.prog 8 #[.pointer (some ⟨wb, 0, none⟩), .int .i64 (k : Int)] w fun e w' => e = .returned (.bool true) ∧ (∃ D', EW base w' wb D' ∧ D'.bn = D.bn + 2) ∧ Below base w w' := by
  obtain ⟨sk, hsk⟩ : ∃ x, x = D.s k := ⟨_, rfl⟩
  obtain ⟨rk, hrk⟩ : ∃ x, x = D.r k := ⟨_, rfl⟩
  obtain ⟨n, hn⟩ : ∃ x, x = D.n k := ⟨_, rfl⟩
  obtain ⟨lk, hlk⟩ : ∃ x, x = D.ls k := ⟨_, rfl⟩
  obtain ⟨m, hm⟩ : ∃ x, x = lk.length := ⟨_, rfl⟩
  have BUP : Bx (∀ u E, EW base u wb E → E.s k = D.s k → E.n k = D.n k → E.ls k = D.ls k → BuP base u sk n lk (E.sv k)) := ⟨fun u E hu e1 e2 e3 => by rw [hsk, hn, hlk, ← e1, ← e2, ← e3]; exact hu.bu k hk⟩
  have RBP : Bx (∀ u E, EW base u wb E → E.r k = D.r k → E.n k = D.n k → E.ls k = D.ls k → RbM base u rk n lk (E.L k)) := ⟨fun u E hu e1 e2 e3 => by rw [hrk, hn, hlk, ← e1, ← e2, ← e3]; exact hu.rb k hk⟩
  have M64 := Bx.mk (show m ≤ 64 by rw [hm, hlk, h.pc k hk]; exact pcnt_le _)
  have L32 := Bx.mk (show ∀ x ∈ lk, x.length = 32 by rw [hlk]; exact (h.bu k hk).h32)
  have c0 := h.cS hk; have c2 := h.cR hk
  rw [← hsk] at c0; rw [← hrk] at c2
  have HM := Bx.mk hm; have H0 := Bx.mk h; have HE := Bx.mk hE; have BN := Bx.mk hbn; have BS := Bx.mk hbase; have HK := Bx.mk hk
  have k1 : (k : Int) < 2 := by omega
  have k2 : ¬ (2 : Int) ≤ (k : Int) := by omega
  have C1 := Bx.mk (bhss_any base w sk n lk (D.sv k) m HM.out (BUP.out w D h rfl rfl rfl) (by have := M64.out; omega) base hbase)
  clear h hE hbn hbase hsk hrk hn hlk hm hk
  go_enter Tryz.func8, Tryz.ntmps8
  go_wp2_with fail
  clear c0 c2 k1 k2
  refine C1.out.mono ?_
  rintro e w1 ⟨v1, rfl, ⟨ho, hf⟩, hb⟩
  obtain ⟨a1, c1, rfl, -, -, -⟩ := own_shapeK ho
  have H1 := Bx.mk (H0.out.below hb); have B1 := Bx.mk (hb.mono BS.out); have O1 := Bx.mk ho; have F1 := Bx.mk hf
  have S1 := Bx.mk (Nat.le_trans BS.out hb.size)
  clear ho hf hb C1
  have C2 := Bx.mk (bhss_any base w1 sk n lk (D.sv k) m HM.out (BUP.out w1 D H1.out rfl rfl rfl) (by have := M64.out; omega) base S1.out)
  go_wp2_with fail
  refine C2.out.mono ?_
  rintro e w2 ⟨v2, rfl, ⟨ho, hf⟩, hb⟩
  obtain ⟨a2, c2, rfl, -, -, -⟩ := own_shapeK ho
  have H2 := Bx.mk (H1.out.below hb); have B2 := Bx.mk (B1.out.trans (hb.mono S1.out)); have O2 := Bx.mk ho; have F2 := Bx.mk hf
  have P1 := Bx.mk (ownsRow_keep' O1.out fun j hj => hb.block j (ownsRow_lt O1.out j hj))
  have S2 := Bx.mk (Nat.le_trans S1.out hb.size)
  have V1 := Bx.mk (show ∀ j, (Value.slice a1 m c1).ownBlock = some j → ∀ a, a < 6 → ¬ D.U wb a j from fun j (hj : (Value.slice a1 m c1).ownBlock = some j) a (_ : a < 6) (e : D.U wb a j) => by have h1 := F1.out j hj; have h2 := H0.out.lt a j e; omega)
  have V2 := Bx.mk (show ∀ j, (Value.slice a2 m c2).ownBlock = some j → ∀ a, a < 6 → ¬ D.U wb a j from fun j (hj : (Value.slice a2 m c2).ownBlock = some j) a (_ : a < 6) (e : D.U wb a j) => by have h1 := F2.out j hj; have h2 := H1.out.lt a j e; omega)
  have V12 := Bx.mk (show ∀ j, (Value.slice a2 m c2).ownBlock = some j → ¬ (Value.slice a1 m c1).ownBlock = some j from fun j (hj : (Value.slice a2 m c2).ownBlock = some j) (e : (Value.slice a1 m c1).ownBlock = some j) => by have h1 := F2.out j hj; have h2 := ownsRow_lt O1.out j e; omega)
  clear ho hf hb C2 O1
  have C3 := Bx.mk (bhashE_any base w2 wb D H2.out S2.out (by have := BN.out; omega) a1 c1 m _ P1.out V1.out M64.out)
  go_wp2_with fail
  refine C3.out.mono ?_
  rintro e w3 ⟨rfl, x3, h3, hk3, hu3⟩
  obtain ⟨D3, hD3⟩ : ∃ D3, D3 = D.addHash x3 (.slice a1 m c1) m (hcells lk) := ⟨_, rfl⟩
  rw [← hD3] at h3 hu3
  have E3 := Bx.mk (show D3.s k = D.s k ∧ D3.r k = D.r k ∧ D3.n k = D.n k ∧ D3.ls k = D.ls k ∧ D3.bn = D.bn + 1 by rw [hD3]; exact ⟨rfl, rfl, rfl, rfl, rfl⟩)
  have H3 := Bx.mk h3
  have kS : ∀ j, (j = wb ∨ (D.l 5).ownBlock = some j) → D.U wb 5 j ∨ D.U wb 4 j := fun j e => e.imp id (fun e => .inr (.inl e))
  have V23 := Bx.mk (show ∀ j, (Value.slice a2 m c2).ownBlock = some j → ∀ a, a < 6 → ¬ D3.U wb a j from fun j (hj : (Value.slice a2 m c2).ownBlock = some j) a (ha : a < 6) (e : D3.U wb a j) => by
    rcases hu3 a ha j e with h1 | h1 | h1
    · exact V2.out j hj a ha h1
    · exact V12.out j hj h1
    · have := ownsRow_lt O2.out j hj; omega)
  have B3 := Bx.mk (B2.out.trans (hk3.below (B := base) S2.out (fun j e => by rcases kS j e with e | e <;> exact H2.out.ge _ j e)))
  have Q1 := Bx.mk (own_keep P1.out hk3 (fun j hj e => by rcases kS j e with e | e <;> exact V1.out j hj _ (by decide) e))
  have Q2 := Bx.mk (own_keep O2.out hk3 (fun j hj e => by rcases kS j e with e | e <;> exact V2.out j hj _ (by decide) e))
  have V13 := Bx.mk (ownsRow_lt Q1.out)
  have S3 := Bx.mk (Nat.le_trans S2.out hk3.size)
  have VB := Bx.mk (show ∀ j, (Value.slice a1 m c1).ownBlock = some j → ¬ (j = wb ∨ (D3.l 5).ownBlock = some j) from fun j (hj : (Value.slice a1 m c1).ownBlock = some j) (e : j = wb ∨ (D3.l 5).ownBlock = some j) => by
    rcases e with e | e
    · exact V1.out j hj 5 (by decide) e
    · exact (h3.bh.nb D.m0 (by rw [hD3]; exact Nat.lt_succ_self _) j (by rw [hD3]; show (updF D.V0 D.m0 _ D.m0).ownBlock = _; rw [updF_at]; exact hj)).2 e)
  clear h3 hk3 hu3 hD3 C3 P1 O2 kS
  have C4 := Bx.mk (bhashE_any base w3 wb D3 H3.out S3.out (by have := BN.out; have := E3.out.2.2.2.2; omega) a2 c2 m _ Q2.out V23.out M64.out)
  go_wp2_with fail
  refine C4.out.mono ?_
  rintro e W4 ⟨rfl, x4, h4, hk4, -⟩
  obtain ⟨D4, hD4⟩ : ∃ D4, D4 = D3.addHash x4 (.slice a2 m c2) m (hcells lk) := ⟨_, rfl⟩
  rw [← hD4] at h4
  have E4 := Bx.mk (show D4.s k = D.s k ∧ D4.r k = D.r k ∧ D4.n k = D.n k ∧ D4.ls k = D.ls k ∧ D4.bn = D.bn + 2 by rw [hD4]; exact ⟨E3.out.1, E3.out.2.1, E3.out.2.2.1, E3.out.2.2.2.1, by show D3.bn + 1 = _; rw [E3.out.2.2.2.2]⟩)
  have H4 := Bx.mk h4
  have B4 := Bx.mk (B3.out.trans (hk4.below (B := base) S3.out (fun j e => by
    rcases e with e | e
    · exact H3.out.ge 5 j e
    · exact H3.out.ge 4 j (.inr (.inl e)))))
  have T1 := Bx.mk (own_keep Q1.out hk4 VB.out)
  have T2 := Bx.mk (own_keep Q2.out hk4 (fun j hj e => by
    rcases e with e | e
    · exact V23.out j hj 5 (by decide) e
    · exact V23.out j hj 4 (by decide) (.inr (.inl e))))
  have S4 := Bx.mk (Nat.le_trans S3.out hk4.size)
  clear h4 hk4 hD4 C4 Q1 Q2
  have bu := BUP.out W4 D4 H4.out E4.out.1 E4.out.2.2.1 E4.out.2.2.2.1
  have rb := RBP.out W4 D4 H4.out E4.out.2.1 E4.out.2.2.1 E4.out.2.2.2.1
  obtain ⟨LV, hLV⟩ : ∃ x, x = D4.L k := ⟨_, rfl⟩
  rw [← hLV] at rb
  obtain ⟨aL, cL, hLs, -, -, -⟩ := own_shapeK rb.row
  rw [← HM.out] at hLs
  subst hLs
  have RB := Bx.mk rb; have BU := Bx.mk bu; have EC := Bx.mk (HE.out W4 B4.out)
  have RKC := Bx.mk rb.hb
  clear rb bu hLV
  obtain ⟨R, hR⟩ : ∃ R, R = upB lk := ⟨_, rfl⟩
  have R32 := Bx.mk (show R.length = 32 by rw [hR]; exact upB_length _ L32.out)
  have HR := Bx.mk hR
  clear hR
  have CR : Bx (∀ u, Below W4.heap.size W4 u → Calls Tryz.prog 19 #[.pointer (some ⟨sk, 0, none⟩)] u fun e w' => e = .returned (.agg (ocells R)) ∧ Below u.heap.size u w') := ⟨fun u hu => by
    have c := broot_any _ u sk _ _ _ (BU.out.below hu) (EC.out.below hu).hs.tab (by rw [← HM.out]; exact M64.out)
    rwa [← HR.out, hv_agg] at c⟩
  have CQ : Bx (∀ u, Below W4.heap.size W4 u → Calls Tryz.prog 20 #[.pointer (some ⟨rk, 0, none⟩)] u fun e w' => e = .returned (.agg (ocells R)) ∧ Below u.heap.size u w') := ⟨fun u hu => by
    have c := rroot_any _ u rk _ _ _ (RB.out.below hu) (by rw [← HM.out]; exact M64.out)
    rwa [← HR.out, hv_agg] at c⟩
  have CS : Bx (∀ u, Below W4.heap.size W4 u → Calls Tryz.prog 16 #[.pointer (some ⟨sk, 0, none⟩)] u fun e w' => e = .returned (.int .u64 (n : Int)) ∧ Below u.heap.size u w') := ⟨fun u hu => (bsize_any _ u sk _ _ _ (BU.out.below hu)).mono fun e w' h => ⟨h.1, h.2 ▸ Below.refl _ _⟩⟩
  have HSL := Bx.mk (fun u (hu : Below W4.heap.size W4 u) => (RB.out.below hu).hss)
  have HS1 := Bx.mk (fun u (hu : Below W4.heap.size W4 u) => hss_own (own_keep T1.out (Keep.of_below hu (fun _ => False)) (fun _ _ h => h)) L32.out HM.out)
  have HS2 := Bx.mk (fun u (hu : Below W4.heap.size W4 u) => hss_own (own_keep T2.out (Keep.of_below hu (fun _ => False)) (fun _ _ h => h)) L32.out HM.out)
  clear BU RB T1 T2
  go_upto_region 7 with (fail)
  refine wp_region_own8 (n := 65) VL7mk (fun _ => none) (VL7 sk rk wb m n c1 c2 cL a1 a2 aL R) (by kernel_rfl) (by kernel_rfl) rfl (fun _ _ => rfl) (fun j i hj _ => by cases hj) ?_ ?_ ?_
  · exact fun oi oj v own w own' w' hij _ h r => VL7_mono sk rk wb m n c1 c2 cL a1 a2 aL R oi oj v own w own' w' hij h r
  · intro oi o hi f u own hsame hsn hfr hlate hkeep8 hdep
    have hkeep := hkeep8 _ (.inl rfl)
    have hb6 := hsn.below (B := W4.heap.size) (fun _ _ => rfl) (Nat.le_refl _)
    match oi, hi with
    | 0, hi =>
      cases (show some _ = some o from hi)
      have e5 : f.tmps.getD 5 undef = .pointer (some ⟨sk, 0, none⟩) := hsame.slot 5 (fun i o h => invB2_not 5 (by kernel_rfl) h)
      clear hdep hsame hi hlate hfr hkeep
      exact .inl ⟨wanted_none rfl, showsO_move hsn rfl _ rfl e5⟩
    | 1, hi =>
      cases (show some _ = some o from hi)
      have e35 : (f.tmps.getD 35 undef) = .pointer (some ⟨sk, 0, none⟩) := depO (V := (VL7 sk rk wb m n c1 c2 cL a1 a2 aL R)) hdep 0 35 (by kernel_rfl) (by kernel_rfl)
      clear hdep hsame hi hlate hfr hkeep
      have c := CS.out u hb6
      exact .inl ⟨wanted_none rfl, showsO_call1 hsn rfl 16 #[.pointer (some ⟨sk, 0, none⟩)] (by simp only [execOp, Act.eval]; go_simp) (c) (fun _ => rfl)⟩
    | 2, hi =>
      cases (show some _ = some o from hi)
      have e6 : f.tmps.getD 6 undef = .pointer (some ⟨rk, 0, none⟩) := hsame.slot 6 (fun i o h => invB2_not 6 (by kernel_rfl) h)
      clear hdep hsame hi hlate hfr hkeep
      exact .inl ⟨wanted_none rfl, showsO_move hsn rfl _ rfl e6⟩
    | 3, hi =>
      cases (show some _ = some o from hi)
      have e37 : (f.tmps.getD 37 undef) = .pointer (some ⟨rk, 0, none⟩) := depO (V := (VL7 sk rk wb m n c1 c2 cL a1 a2 aL R)) hdep 2 37 (by kernel_rfl) (by kernel_rfl)
      clear hdep hsame hi hlate hfr hkeep
      exact .inl ⟨wanted_none rfl, showsO_pure hsn rfl (.pointer (some ⟨rk, 0, none⟩)) (by simp only [execOp, Act.eval]; go_simp) rfl⟩
    | 4, hi =>
      cases (show some _ = some o from hi)
      have e38 : (f.tmps.getD 38 undef) = .pointer (some ⟨rk, 0, none⟩) := depO (V := (VL7 sk rk wb m n c1 c2 cL a1 a2 aL R)) hdep 3 38 (by kernel_rfl) (by kernel_rfl)
      clear hdep hsame hi hlate hfr hkeep
      exact .inl ⟨wanted_none rfl, showsO_pure hsn rfl (.pointer (some ⟨rk, 0, none⟩)) (by simp only [execOp, Act.eval]; go_simp) rfl⟩
    | 5, hi =>
      cases (show some _ = some o from hi)
      have e39 : (f.tmps.getD 39 undef) = .pointer (some ⟨rk, 0, none⟩) := depO (V := (VL7 sk rk wb m n c1 c2 cL a1 a2 aL R)) hdep 4 39 (by kernel_rfl) (by kernel_rfl)
      clear hdep hsame hi hlate hfr hkeep
      have c40 := er_cellAt ((hb6.block _ (Array.getElem?_eq_some_iff.1 RKC.out).1).trans RKC.out) (0) _ rfl
      exact .inl ⟨wanted_none rfl, showsO_pure hsn rfl (.int .u64 (n : Int)) (by simp only [execOp, Act.eval]; go_simp) rfl⟩
    | 6, hi =>
      cases (show some _ = some o from hi)
      have e36 : (f.tmps.getD 36 undef) = .int .u64 (n : Int) := depO (V := (VL7 sk rk wb m n c1 c2 cL a1 a2 aL R)) hdep 1 36 (by kernel_rfl) (by kernel_rfl)
      have e40 : (f.tmps.getD 40 undef) = .int .u64 (n : Int) := depO (V := (VL7 sk rk wb m n c1 c2 cL a1 a2 aL R)) hdep 5 40 (by kernel_rfl) (by kernel_rfl)
      clear hdep hsame hi hlate hfr hkeep
      exact .inl ⟨wanted_none rfl, showsO_pure hsn rfl (.bool true) (by simp only [execOp, Act.eval]; go_simp) rfl⟩
    | 7, hi =>
      cases (show some _ = some o from hi)
      have e41 : (f.tmps.getD 41 undef) = .bool true := depO (V := (VL7 sk rk wb m n c1 c2 cL a1 a2 aL R)) hdep 6 41 (by kernel_rfl) (by kernel_rfl)
      clear hdep hsame hi hlate hfr hkeep
      exact .inl ⟨wanted_none rfl, showsO_move hsn rfl _ rfl e41⟩
    | 8, hi =>
      cases (show some _ = some o from hi)
      have e5 : f.tmps.getD 5 undef = .pointer (some ⟨sk, 0, none⟩) := hsame.slot 5 (fun i o h => invB2_not 5 (by kernel_rfl) h)
      have eg : f.tmps.getD 42 undef = .bool true := depO (V := (VL7 sk rk wb m n c1 c2 cL a1 a2 aL R)) hdep 7 42 (by kernel_rfl) (by kernel_rfl)
      clear hdep hsame hi hlate hfr hkeep
      exact .inl ⟨wanted_of 7 rfl eg (by kernel_rfl), showsO_move hsn rfl _ rfl e5⟩
    | 9, hi =>
      cases (show some _ = some o from hi)
      have e43 : (f.tmps.getD 43 undef) = .pointer (some ⟨sk, 0, none⟩) := depO (V := (VL7 sk rk wb m n c1 c2 cL a1 a2 aL R)) hdep 8 43 (by kernel_rfl) (by kernel_rfl)
      have eg : f.tmps.getD 42 undef = .bool true := depO (V := (VL7 sk rk wb m n c1 c2 cL a1 a2 aL R)) hdep 7 42 (by kernel_rfl) (by kernel_rfl)
      clear hdep hsame hi hlate hfr hkeep
      have c := CR.out u hb6
      exact .inl ⟨wanted_of 7 rfl eg (by kernel_rfl), showsO_call1 hsn rfl 19 #[.pointer (some ⟨sk, 0, none⟩)] (by simp only [execOp, Act.eval]; go_simp) (c) (fun _ => rfl)⟩
    | 10, hi =>
      cases (show some _ = some o from hi)
      have e6 : f.tmps.getD 6 undef = .pointer (some ⟨rk, 0, none⟩) := hsame.slot 6 (fun i o h => invB2_not 6 (by kernel_rfl) h)
      have eg : f.tmps.getD 42 undef = .bool true := depO (V := (VL7 sk rk wb m n c1 c2 cL a1 a2 aL R)) hdep 7 42 (by kernel_rfl) (by kernel_rfl)
      clear hdep hsame hi hlate hfr hkeep
      exact .inl ⟨wanted_of 7 rfl eg (by kernel_rfl), showsO_move hsn rfl _ rfl e6⟩
    | 11, hi =>
      cases (show some _ = some o from hi)
      have e45 : (f.tmps.getD 45 undef) = .pointer (some ⟨rk, 0, none⟩) := depO (V := (VL7 sk rk wb m n c1 c2 cL a1 a2 aL R)) hdep 10 45 (by kernel_rfl) (by kernel_rfl)
      have eg : f.tmps.getD 42 undef = .bool true := depO (V := (VL7 sk rk wb m n c1 c2 cL a1 a2 aL R)) hdep 7 42 (by kernel_rfl) (by kernel_rfl)
      clear hdep hsame hi hlate hfr hkeep
      have c := CQ.out u hb6
      exact .inl ⟨wanted_of 7 rfl eg (by kernel_rfl), showsO_call1 hsn rfl 20 #[.pointer (some ⟨rk, 0, none⟩)] (by simp only [execOp, Act.eval]; go_simp) (c) (fun _ => rfl)⟩
    | 12, hi =>
      cases (show some _ = some o from hi)
      have e44 : (f.tmps.getD 44 undef) = .agg (ocells (R)) := depO (V := (VL7 sk rk wb m n c1 c2 cL a1 a2 aL R)) hdep 9 44 (by kernel_rfl) (by kernel_rfl)
      have e46 : (f.tmps.getD 46 undef) = .agg (ocells (R)) := depO (V := (VL7 sk rk wb m n c1 c2 cL a1 a2 aL R)) hdep 11 46 (by kernel_rfl) (by kernel_rfl)
      have eg : f.tmps.getD 42 undef = .bool true := depO (V := (VL7 sk rk wb m n c1 c2 cL a1 a2 aL R)) hdep 7 42 (by kernel_rfl) (by kernel_rfl)
      clear hdep hsame hi hlate hfr hkeep
      have q := fun u => hv_eq u (R) (R) R32.out R32.out
      simp only [hv_agg, beq_self_eq_true] at q
      exact .inl ⟨wanted_of 7 rfl eg (by kernel_rfl), showsO_pure hsn rfl (.bool true) (by simp only [execOp, Act.eval]; go_simp) rfl⟩
    | 13, hi =>
      cases (show some _ = some o from hi)
      have e42 : (f.tmps.getD 42 undef) = .bool true := depO (V := (VL7 sk rk wb m n c1 c2 cL a1 a2 aL R)) hdep 7 42 (by kernel_rfl) (by kernel_rfl)
      have e47 : (f.tmps.getD 47 undef) = .bool true := depO (V := (VL7 sk rk wb m n c1 c2 cL a1 a2 aL R)) hdep 12 47 (by kernel_rfl) (by kernel_rfl)
      clear hdep hsame hi hlate hfr hkeep
      exact .inl ⟨wanted_none rfl, showsO_pure hsn rfl (.bool true) (by simp only [execOp, Act.eval]; go_simp) rfl⟩
    | 14, hi =>
      cases (show some _ = some o from hi)
      have e48 : (f.tmps.getD 48 undef) = .bool true := depO (V := (VL7 sk rk wb m n c1 c2 cL a1 a2 aL R)) hdep 13 48 (by kernel_rfl) (by kernel_rfl)
      clear hdep hsame hi hlate hfr hkeep
      exact .inl ⟨wanted_none rfl, showsO_move hsn rfl _ rfl e48⟩
    | 15, hi =>
      cases (show some _ = some o from hi)
      have e7 : f.tmps.getD 7 undef = .slice a1 m c1 := hsame.slot 7 (fun i o h => invB2_not 7 (by kernel_rfl) h)
      have eg : f.tmps.getD 49 undef = .bool true := depO (V := (VL7 sk rk wb m n c1 c2 cL a1 a2 aL R)) hdep 14 49 (by kernel_rfl) (by kernel_rfl)
      clear hdep hsame hi hlate hfr hkeep
      exact .inl ⟨wanted_of 14 rfl eg (by kernel_rfl), showsO_move hsn rfl _ rfl e7⟩
    | 16, hi =>
      cases (show some _ = some o from hi)
      have e6 : f.tmps.getD 6 undef = .pointer (some ⟨rk, 0, none⟩) := hsame.slot 6 (fun i o h => invB2_not 6 (by kernel_rfl) h)
      have eg : f.tmps.getD 49 undef = .bool true := depO (V := (VL7 sk rk wb m n c1 c2 cL a1 a2 aL R)) hdep 14 49 (by kernel_rfl) (by kernel_rfl)
      clear hdep hsame hi hlate hfr hkeep
      exact .inl ⟨wanted_of 14 rfl eg (by kernel_rfl), showsO_move hsn rfl _ rfl e6⟩
    | 17, hi =>
      cases (show some _ = some o from hi)
      have e51 : (f.tmps.getD 51 undef) = .pointer (some ⟨rk, 0, none⟩) := depO (V := (VL7 sk rk wb m n c1 c2 cL a1 a2 aL R)) hdep 16 51 (by kernel_rfl) (by kernel_rfl)
      have eg : f.tmps.getD 49 undef = .bool true := depO (V := (VL7 sk rk wb m n c1 c2 cL a1 a2 aL R)) hdep 14 49 (by kernel_rfl) (by kernel_rfl)
      clear hdep hsame hi hlate hfr hkeep
      exact .inl ⟨wanted_of 14 rfl eg (by kernel_rfl), showsO_pure hsn rfl (.pointer (some ⟨rk, 0, none⟩)) (by simp only [execOp, Act.eval]; go_simp) rfl⟩
    | 18, hi =>
      cases (show some _ = some o from hi)
      have e52 : (f.tmps.getD 52 undef) = .pointer (some ⟨rk, 0, none⟩) := depO (V := (VL7 sk rk wb m n c1 c2 cL a1 a2 aL R)) hdep 17 52 (by kernel_rfl) (by kernel_rfl)
      have eg : f.tmps.getD 49 undef = .bool true := depO (V := (VL7 sk rk wb m n c1 c2 cL a1 a2 aL R)) hdep 14 49 (by kernel_rfl) (by kernel_rfl)
      clear hdep hsame hi hlate hfr hkeep
      exact .inl ⟨wanted_of 14 rfl eg (by kernel_rfl), showsO_pure hsn rfl (.pointer (some ⟨rk, 1, none⟩)) (by simp only [execOp, Act.eval]; go_simp) rfl⟩
    | 19, hi =>
      cases (show some _ = some o from hi)
      have e53 : (f.tmps.getD 53 undef) = .pointer (some ⟨rk, 1, none⟩) := depO (V := (VL7 sk rk wb m n c1 c2 cL a1 a2 aL R)) hdep 18 53 (by kernel_rfl) (by kernel_rfl)
      have eg : f.tmps.getD 49 undef = .bool true := depO (V := (VL7 sk rk wb m n c1 c2 cL a1 a2 aL R)) hdep 14 49 (by kernel_rfl) (by kernel_rfl)
      clear hdep hsame hi hlate hfr hkeep
      have c54 := er_cellAt ((hb6.block _ (Array.getElem?_eq_some_iff.1 RKC.out).1).trans RKC.out) (1) _ rfl
      exact .inl ⟨wanted_of 14 rfl eg (by kernel_rfl), showsO_pure hsn rfl (.slice aL m cL) (by simp only [execOp, Act.eval]; go_simp) rfl⟩
    | 20, hi =>
      cases (show some _ = some o from hi)
      have e50 : (f.tmps.getD 50 undef) = .slice a1 m c1 := depO (V := (VL7 sk rk wb m n c1 c2 cL a1 a2 aL R)) hdep 15 50 (by kernel_rfl) (by kernel_rfl)
      have e54 : (f.tmps.getD 54 undef) = .slice aL m cL := depO (V := (VL7 sk rk wb m n c1 c2 cL a1 a2 aL R)) hdep 19 54 (by kernel_rfl) (by kernel_rfl)
      have eg : f.tmps.getD 49 undef = .bool true := depO (V := (VL7 sk rk wb m n c1 c2 cL a1 a2 aL R)) hdep 14 49 (by kernel_rfl) (by kernel_rfl)
      clear hdep hsame hi hlate hfr hkeep
      have c := same_any u a1 m c1 lk aL m cL lk (HS1.out u hb6) (HSL.out u hb6)
      rw [beq_self_eq_true] at c
      exact .inl ⟨wanted_of 14 rfl eg (by kernel_rfl), showsO_call1 hsn rfl 21 #[.slice a1 m c1, .slice aL m cL] (by simp only [execOp, Act.eval]; go_simp) (c) (fun _ => rfl)⟩
    | 21, hi =>
      cases (show some _ = some o from hi)
      have e49 : (f.tmps.getD 49 undef) = .bool true := depO (V := (VL7 sk rk wb m n c1 c2 cL a1 a2 aL R)) hdep 14 49 (by kernel_rfl) (by kernel_rfl)
      have e55 : (f.tmps.getD 55 undef) = .bool true := depO (V := (VL7 sk rk wb m n c1 c2 cL a1 a2 aL R)) hdep 20 55 (by kernel_rfl) (by kernel_rfl)
      clear hdep hsame hi hlate hfr hkeep
      exact .inl ⟨wanted_none rfl, showsO_pure hsn rfl (.bool true) (by simp only [execOp, Act.eval]; go_simp) rfl⟩
    | 22, hi =>
      cases (show some _ = some o from hi)
      have e56 : (f.tmps.getD 56 undef) = .bool true := depO (V := (VL7 sk rk wb m n c1 c2 cL a1 a2 aL R)) hdep 21 56 (by kernel_rfl) (by kernel_rfl)
      clear hdep hsame hi hlate hfr hkeep
      exact .inl ⟨wanted_none rfl, showsO_move hsn rfl _ rfl e56⟩
    | 23, hi =>
      cases (show some _ = some o from hi)
      have e8 : f.tmps.getD 8 undef = .slice a2 m c2 := hsame.slot 8 (fun i o h => invB2_not 8 (by kernel_rfl) h)
      have eg : f.tmps.getD 57 undef = .bool true := depO (V := (VL7 sk rk wb m n c1 c2 cL a1 a2 aL R)) hdep 22 57 (by kernel_rfl) (by kernel_rfl)
      clear hdep hsame hi hlate hfr hkeep
      exact .inl ⟨wanted_of 22 rfl eg (by kernel_rfl), showsO_move hsn rfl _ rfl e8⟩
    | 24, hi =>
      cases (show some _ = some o from hi)
      have e6 : f.tmps.getD 6 undef = .pointer (some ⟨rk, 0, none⟩) := hsame.slot 6 (fun i o h => invB2_not 6 (by kernel_rfl) h)
      have eg : f.tmps.getD 57 undef = .bool true := depO (V := (VL7 sk rk wb m n c1 c2 cL a1 a2 aL R)) hdep 22 57 (by kernel_rfl) (by kernel_rfl)
      clear hdep hsame hi hlate hfr hkeep
      exact .inl ⟨wanted_of 22 rfl eg (by kernel_rfl), showsO_move hsn rfl _ rfl e6⟩
    | 25, hi =>
      cases (show some _ = some o from hi)
      have e59 : (f.tmps.getD 59 undef) = .pointer (some ⟨rk, 0, none⟩) := depO (V := (VL7 sk rk wb m n c1 c2 cL a1 a2 aL R)) hdep 24 59 (by kernel_rfl) (by kernel_rfl)
      have eg : f.tmps.getD 57 undef = .bool true := depO (V := (VL7 sk rk wb m n c1 c2 cL a1 a2 aL R)) hdep 22 57 (by kernel_rfl) (by kernel_rfl)
      clear hdep hsame hi hlate hfr hkeep
      exact .inl ⟨wanted_of 22 rfl eg (by kernel_rfl), showsO_pure hsn rfl (.pointer (some ⟨rk, 0, none⟩)) (by simp only [execOp, Act.eval]; go_simp) rfl⟩
    | 26, hi =>
      cases (show some _ = some o from hi)
      have e60 : (f.tmps.getD 60 undef) = .pointer (some ⟨rk, 0, none⟩) := depO (V := (VL7 sk rk wb m n c1 c2 cL a1 a2 aL R)) hdep 25 60 (by kernel_rfl) (by kernel_rfl)
      have eg : f.tmps.getD 57 undef = .bool true := depO (V := (VL7 sk rk wb m n c1 c2 cL a1 a2 aL R)) hdep 22 57 (by kernel_rfl) (by kernel_rfl)
      clear hdep hsame hi hlate hfr hkeep
      exact .inl ⟨wanted_of 22 rfl eg (by kernel_rfl), showsO_pure hsn rfl (.pointer (some ⟨rk, 1, none⟩)) (by simp only [execOp, Act.eval]; go_simp) rfl⟩
    | 27, hi =>
      cases (show some _ = some o from hi)
      have e61 : (f.tmps.getD 61 undef) = .pointer (some ⟨rk, 1, none⟩) := depO (V := (VL7 sk rk wb m n c1 c2 cL a1 a2 aL R)) hdep 26 61 (by kernel_rfl) (by kernel_rfl)
      have eg : f.tmps.getD 57 undef = .bool true := depO (V := (VL7 sk rk wb m n c1 c2 cL a1 a2 aL R)) hdep 22 57 (by kernel_rfl) (by kernel_rfl)
      clear hdep hsame hi hlate hfr hkeep
      have c62 := er_cellAt ((hb6.block _ (Array.getElem?_eq_some_iff.1 RKC.out).1).trans RKC.out) (1) _ rfl
      exact .inl ⟨wanted_of 22 rfl eg (by kernel_rfl), showsO_pure hsn rfl (.slice aL m cL) (by simp only [execOp, Act.eval]; go_simp) rfl⟩
    | 28, hi =>
      cases (show some _ = some o from hi)
      have e58 : (f.tmps.getD 58 undef) = .slice a2 m c2 := depO (V := (VL7 sk rk wb m n c1 c2 cL a1 a2 aL R)) hdep 23 58 (by kernel_rfl) (by kernel_rfl)
      have e62 : (f.tmps.getD 62 undef) = .slice aL m cL := depO (V := (VL7 sk rk wb m n c1 c2 cL a1 a2 aL R)) hdep 27 62 (by kernel_rfl) (by kernel_rfl)
      have eg : f.tmps.getD 57 undef = .bool true := depO (V := (VL7 sk rk wb m n c1 c2 cL a1 a2 aL R)) hdep 22 57 (by kernel_rfl) (by kernel_rfl)
      clear hdep hsame hi hlate hfr hkeep
      have c := same_any u a2 m c2 lk aL m cL lk (HS2.out u hb6) (HSL.out u hb6)
      rw [beq_self_eq_true] at c
      exact .inl ⟨wanted_of 22 rfl eg (by kernel_rfl), showsO_call1 hsn rfl 21 #[.slice a2 m c2, .slice aL m cL] (by simp only [execOp, Act.eval]; go_simp) (c) (fun _ => rfl)⟩
    | 29, hi =>
      cases (show some _ = some o from hi)
      have e57 : (f.tmps.getD 57 undef) = .bool true := depO (V := (VL7 sk rk wb m n c1 c2 cL a1 a2 aL R)) hdep 22 57 (by kernel_rfl) (by kernel_rfl)
      have e63 : (f.tmps.getD 63 undef) = .bool true := depO (V := (VL7 sk rk wb m n c1 c2 cL a1 a2 aL R)) hdep 28 63 (by kernel_rfl) (by kernel_rfl)
      clear hdep hsame hi hlate hfr hkeep
      exact .inl ⟨wanted_none rfl, showsO_pure hsn rfl (.bool true) (by simp only [execOp, Act.eval]; go_simp) rfl⟩
    | 30, hi =>
      cases (show some _ = some o from hi)
      have e64 : (f.tmps.getD 64 undef) = .bool true := depO (V := (VL7 sk rk wb m n c1 c2 cL a1 a2 aL R)) hdep 29 64 (by kernel_rfl) (by kernel_rfl)
      clear hdep hsame hi hlate hfr hkeep
      exact .inl ⟨wanted_none rfl, showsO_assign hsn rfl _ rfl e64⟩
    | n + 31, hi => exact absurd hi (by simp)
  · intro f u9 own hsame hsn hall
    have q35 : f.tmps.getD 35 undef = .pointer (some ⟨sk, 0, none⟩) := finO (V := (VL7 sk rk wb m n c1 c2 cL a1 a2 aL R)) hall 0 35 rfl
    have q36 : f.tmps.getD 36 undef = .int .u64 (n : Int) := finO (V := (VL7 sk rk wb m n c1 c2 cL a1 a2 aL R)) hall 1 36 rfl
    have q37 : f.tmps.getD 37 undef = .pointer (some ⟨rk, 0, none⟩) := finO (V := (VL7 sk rk wb m n c1 c2 cL a1 a2 aL R)) hall 2 37 rfl
    have q38 : f.tmps.getD 38 undef = .pointer (some ⟨rk, 0, none⟩) := finO (V := (VL7 sk rk wb m n c1 c2 cL a1 a2 aL R)) hall 3 38 rfl
    have q39 : f.tmps.getD 39 undef = .pointer (some ⟨rk, 0, none⟩) := finO (V := (VL7 sk rk wb m n c1 c2 cL a1 a2 aL R)) hall 4 39 rfl
    have q40 : f.tmps.getD 40 undef = .int .u64 (n : Int) := finO (V := (VL7 sk rk wb m n c1 c2 cL a1 a2 aL R)) hall 5 40 rfl
    have q41 : f.tmps.getD 41 undef = .bool true := finO (V := (VL7 sk rk wb m n c1 c2 cL a1 a2 aL R)) hall 6 41 rfl
    have q42 : f.tmps.getD 42 undef = .bool true := finO (V := (VL7 sk rk wb m n c1 c2 cL a1 a2 aL R)) hall 7 42 rfl
    have q43 : f.tmps.getD 43 undef = .pointer (some ⟨sk, 0, none⟩) := finO (V := (VL7 sk rk wb m n c1 c2 cL a1 a2 aL R)) hall 8 43 rfl
    have q44 : f.tmps.getD 44 undef = .agg (ocells (R)) := finO (V := (VL7 sk rk wb m n c1 c2 cL a1 a2 aL R)) hall 9 44 rfl
    have q45 : f.tmps.getD 45 undef = .pointer (some ⟨rk, 0, none⟩) := finO (V := (VL7 sk rk wb m n c1 c2 cL a1 a2 aL R)) hall 10 45 rfl
    have q46 : f.tmps.getD 46 undef = .agg (ocells (R)) := finO (V := (VL7 sk rk wb m n c1 c2 cL a1 a2 aL R)) hall 11 46 rfl
    have q47 : f.tmps.getD 47 undef = .bool true := finO (V := (VL7 sk rk wb m n c1 c2 cL a1 a2 aL R)) hall 12 47 rfl
    have q48 : f.tmps.getD 48 undef = .bool true := finO (V := (VL7 sk rk wb m n c1 c2 cL a1 a2 aL R)) hall 13 48 rfl
    have q49 : f.tmps.getD 49 undef = .bool true := finO (V := (VL7 sk rk wb m n c1 c2 cL a1 a2 aL R)) hall 14 49 rfl
    have q50 : f.tmps.getD 50 undef = .slice a1 m c1 := finO (V := (VL7 sk rk wb m n c1 c2 cL a1 a2 aL R)) hall 15 50 rfl
    have q51 : f.tmps.getD 51 undef = .pointer (some ⟨rk, 0, none⟩) := finO (V := (VL7 sk rk wb m n c1 c2 cL a1 a2 aL R)) hall 16 51 rfl
    have q52 : f.tmps.getD 52 undef = .pointer (some ⟨rk, 0, none⟩) := finO (V := (VL7 sk rk wb m n c1 c2 cL a1 a2 aL R)) hall 17 52 rfl
    have q53 : f.tmps.getD 53 undef = .pointer (some ⟨rk, 1, none⟩) := finO (V := (VL7 sk rk wb m n c1 c2 cL a1 a2 aL R)) hall 18 53 rfl
    have q54 : f.tmps.getD 54 undef = .slice aL m cL := finO (V := (VL7 sk rk wb m n c1 c2 cL a1 a2 aL R)) hall 19 54 rfl
    have q55 : f.tmps.getD 55 undef = .bool true := finO (V := (VL7 sk rk wb m n c1 c2 cL a1 a2 aL R)) hall 20 55 rfl
    have q56 : f.tmps.getD 56 undef = .bool true := finO (V := (VL7 sk rk wb m n c1 c2 cL a1 a2 aL R)) hall 21 56 rfl
    have q57 : f.tmps.getD 57 undef = .bool true := finO (V := (VL7 sk rk wb m n c1 c2 cL a1 a2 aL R)) hall 22 57 rfl
    have q58 : f.tmps.getD 58 undef = .slice a2 m c2 := finO (V := (VL7 sk rk wb m n c1 c2 cL a1 a2 aL R)) hall 23 58 rfl
    have q59 : f.tmps.getD 59 undef = .pointer (some ⟨rk, 0, none⟩) := finO (V := (VL7 sk rk wb m n c1 c2 cL a1 a2 aL R)) hall 24 59 rfl
    have q60 : f.tmps.getD 60 undef = .pointer (some ⟨rk, 0, none⟩) := finO (V := (VL7 sk rk wb m n c1 c2 cL a1 a2 aL R)) hall 25 60 rfl
    have q61 : f.tmps.getD 61 undef = .pointer (some ⟨rk, 1, none⟩) := finO (V := (VL7 sk rk wb m n c1 c2 cL a1 a2 aL R)) hall 26 61 rfl
    have q62 : f.tmps.getD 62 undef = .slice aL m cL := finO (V := (VL7 sk rk wb m n c1 c2 cL a1 a2 aL R)) hall 27 62 rfl
    have q63 : f.tmps.getD 63 undef = .bool true := finO (V := (VL7 sk rk wb m n c1 c2 cL a1 a2 aL R)) hall 28 63 rfl
    have q64 : f.tmps.getD 64 undef = .bool true := finO (V := (VL7 sk rk wb m n c1 c2 cL a1 a2 aL R)) hall 29 64 rfl
    have q4 : f.tmps.getD 4 undef = .bool true := finO (V := (VL7 sk rk wb m n c1 c2 cL a1 a2 aL R)) hall 30 4 rfl
    obtain rfl := frame_eq hsame [(35, .pointer (some ⟨sk, 0, none⟩)), (36, .int .u64 (n : Int)), (37, .pointer (some ⟨rk, 0, none⟩)), (38, .pointer (some ⟨rk, 0, none⟩)), (39, .pointer (some ⟨rk, 0, none⟩)), (40, .int .u64 (n : Int)), (41, .bool true), (42, .bool true), (43, .pointer (some ⟨sk, 0, none⟩)), (44, .agg (ocells (R))), (45, .pointer (some ⟨rk, 0, none⟩)), (46, .agg (ocells (R))), (47, .bool true), (48, .bool true), (49, .bool true), (50, .slice a1 m c1), (51, .pointer (some ⟨rk, 0, none⟩)), (52, .pointer (some ⟨rk, 0, none⟩)), (53, .pointer (some ⟨rk, 1, none⟩)), (54, .slice aL m cL), (55, .bool true), (56, .bool true), (57, .bool true), (58, .slice a2 m c2), (59, .pointer (some ⟨rk, 0, none⟩)), (60, .pointer (some ⟨rk, 0, none⟩)), (61, .pointer (some ⟨rk, 1, none⟩)), (62, .slice aL m cL), (63, .bool true), (64, .bool true), (4, .bool true)] (by kernel_rfl) ⟨q35, q36, q37, q38, q39, q40, q41, q42, q43, q44, q45, q46, q47, q48, q49, q50, q51, q52, q53, q54, q55, q56, q57, q58, q59, q60, q61, q62, q63, q64, q4, trivial⟩
    clear hall hsame q35 q36 q37 q38 q39 q40 q41 q42 q43 q44 q45 q46 q47 q48 q49 q50 q51 q52 q53 q54 q55 q56 q57 q58 q59 q60 q61 q62 q63 q64 q4
    simp only [List.foldl, List.setIfInBounds_toArray, List.set_cons_succ, List.set_cons_zero]
    have hb := hsn.below (B := W4.heap.size) (fun _ _ => rfl) (Nat.le_refl _)
    go_wp2_with fail
    go_ret
    exact ⟨rfl, ⟨D4, H4.out.below hb, E4.out.2.2.2.2⟩, B4.out.trans (hb.mono S4.out)⟩
end Go.Proofs.YtbhcaalelfaceaaGreatDoor
