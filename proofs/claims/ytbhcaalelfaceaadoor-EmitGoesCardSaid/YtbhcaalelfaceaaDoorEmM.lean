/- cartularylaw10.EmitGoes walked. -/
import Derived.Test.YtbhcaalelfaceaaDoorEmL
import Derived.Test.YtbhcaalelfaceaaDoorEmK
namespace Go.Proofs.YtbhcaalelfaceaaDoor
set_option maxRecDepth 100000
open Go.RowKit
def VM14 (a : Nat) (R : List UInt8) (oi : Nat) (v : Value) (own : Nat → Option Nat) (w : World) : Prop :=
  match oi with
  | 0 => v = .pointer (some ⟨a, 0, none⟩)
  | 1 => v = .agg (ocells (R))
  | 2 => AllocV own w v 3 33 32
  | 3 => StoredV own w 3 33 (ocells (R))
  | _ => True
def VM14mk : Nat → Option Nat := fun j => match j with | 3 => some 2 | _ => none
theorem VM14_mono (a : Nat) (R : List UInt8) (oi oj : Nat) (v : Value) (own : Nat → Option Nat) (w : World) (own' : Nat → Option Nat) (w' : World) (hij : oi ≠ oj)   (h : VM14 a R oj v own w) (r : Rel VM14mk oi own w own' w') : VM14 a R oj v own' w' := by
  unfold VM14 at h ⊢
  split at h
  · exact h
  · exact h
  · exact h.stable r rfl hij
  · exact h.stable r hij
  · trivial

def VM20 (a b q c15 c17 N1 : Nat) (a15 a17 : Option Addr) (RZ : List UInt8) (oi : Nat) (v : Value) (_own : Nat → Option Nat) (_w : World) : Prop :=
  match oi with
  | 0 => v = .nilIface
  | 1 => v = .bool false
  | 2 => v = .bool false
  | 3 => v = .nilIface
  | 4 => v = .bool false
  | 5 => v = .bool false
  | 6 => v = .bool false
  | 7 => v = .slice a15 q c15
  | 8 => v = .slice a17 q c17
  | 9 => v = .bool true
  | 10 => v = .bool false
  | 11 => v = .bool false
  | 12 => v = .bool false
  | 13 => v = .pointer (some ⟨a, 0, none⟩)
  | 14 => v = .agg (ocells (RZ))
  | 15 => v = .pointer (some ⟨b, 0, none⟩)
  | 16 => v = .agg (ocells (RZ))
  | 17 => v = .bool false
  | 18 => v = .bool false
  | 19 => v = .bool false
  | 20 => v = .pointer (some ⟨a, 0, none⟩)
  | 21 => v = .int .u64 (N1 : Int)
  | 22 => v = .pointer (some ⟨b, 0, none⟩)
  | 23 => v = .int .u64 (N1 : Int)
  | 24 => v = .bool false
  | 25 => v = .bool false
  | _ => True
def VM20mk : Nat → Option Nat := fun _ => none
theorem VM20_mono (a b q c15 c17 N1 : Nat) (a15 a17 : Option Addr) (RZ : List UInt8) (oi oj : Nat) (v : Value) (own : Nat → Option Nat) (w : World) (own' : Nat → Option Nat) (w' : World) (hij : oi ≠ oj)   (h : VM20 a b q c15 c17 N1 a15 a17 RZ oj v own w) (_r : Rel VM20mk oi own w own' w') : VM20 a b q c15 c17 N1 a15 a17 RZ oj v own' w' := by
  unfold VM20 at h ⊢
  split at h
  · exact h
  · exact h
  · exact h
  · exact h
  · exact h
  · exact h
  · exact h
  · exact h
  · exact h
  · exact h
  · exact h
  · exact h
  · exact h
  · exact h
  · exact h
  · exact h
  · exact h
  · exact h
  · exact h
  · exact h
  · exact h
  · exact h
  · exact h
  · exact h
  · exact h
  · exact h
  · trivial

def VM22 (a b z m2 t c1 _g13 : Nat) (ad1 : Option Addr) (la : List (List UInt8)) (R : List UInt8) (oi : Nat) (v : Value) (own : Nat → Option Nat) (w : World) : Prop :=
  match oi with
  | 0 => v = .pointer (some ⟨a, 0, none⟩)
  | 1 => RowN own w v 0 33 32 m2 (hcells la)
  | 2 => v = .pointer (some ⟨b, 0, none⟩)
  | 3 => RowN own w v 0 33 32 m2 (hcells la)
  | 4 => v = .bool true
  | 5 => v = .bool true
  | 6 => v = .pointer (some ⟨z, 0, none⟩)
  | 7 => v = .agg (ocells (R))
  | 8 => v = .agg (ocells (R))
  | 9 => v = .bool true
  | 10 => v = .bool true
  | 11 => v = .bool true
  | 12 => v = .pointer (some ⟨z, 0, none⟩)
  | 13 => v = .int .u64 (t : Int)
  | 14 => v = .slice ad1 t c1
  | 15 => v = .int .i64 (t : Int)
  | 16 => v = .int .u64 (t : Int)
  | 17 => v = .bool true
  | 18 => v = .bool true
  | 19 => v = .bool true
  | _ => True
def VM22mk : Nat → Option Nat := fun _ => none
theorem VM22_mono (a b z m2 t c1 g13 : Nat) (ad1 : Option Addr) (la : List (List UInt8)) (R : List UInt8) (oi oj : Nat) (v : Value) (own : Nat → Option Nat) (w : World) (own' : Nat → Option Nat) (w' : World) (hij : oi ≠ oj)   (h : VM22 a b z m2 t c1 g13 ad1 la R oj v own w) (r : Rel VM22mk oi own w own' w') : VM22 a b z m2 t c1 g13 ad1 la R oj v own' w' := by
  unfold VM22 at h ⊢
  split at h
  · exact h
  · exact h.stable r
  · exact h
  · exact h.stable r
  · exact h
  · exact h
  · exact h
  · exact h
  · exact h
  · exact h
  · exact h
  · exact h
  · exact h
  · exact h
  · exact h
  · exact h
  · exact h
  · exact h
  · exact h
  · exact h
  · trivial

set_option maxHeartbeats 4000000 in
theorem egoes_any (A : Nat → Addr) (w : World) (ad1 : Option Addr) (l1 c1 : Nat) (h1 : List (List UInt8)) (hH1 : Hss w (.slice ad1 l1 c1) h1) (hz1 : l1 ≤ 140737488351232) (ad2 : Option Addr) (l2 c2 : Nat) (h2 : List (List UInt8)) (hH2 : Hss w (.slice ad2 l2 c2) h2) (hz2 : l2 ≤ 140737488351232) (h : Em A w) : Calls Tryd.prog 3 #[.slice ad1 l1 c1, .slice ad2 l2 c2] w fun e w' => e = .returned (.bool true) ∧ Below w.heap.size w w' := by
  have hl1 : l1 = h1.length := by obtain ⟨_, _, e, _⟩ := hH1.len; cases e; rfl
  have hl2 : l2 = h2.length := by obtain ⟨_, _, e, _⟩ := hH2.len; cases e; rfl
  have hm1 := hz1
  have hm2 := hz2
  have L1 := Bx.mk hl1; have L2 := Bx.mk hl2; have M1 := Bx.mk hm1; have M2 := Bx.mk hm2
  have HF := Bx.mk hH1.1; have HM := Bx.mk hH2.1
  have K0 := Bx.mk (Below.refl w.heap.size w); have EM0 := Bx.mk h; have HA0 := Bx.mk hH1; have HB0 := Bx.mk hH2
  have AL := Bx.mk (alive10_any A w h)
  clear hl1 hl2 hm1 hm2 hz1 hz2 h hH1 hH2
  go_enter Tryd.func3, Tryd.ntmps3
  go_wp2_with fail
  refine AL.out.mono ?_
  rintro e w2 ⟨rfl, hb⟩
  clear AL
  have K1 := Bx.mk (K0.out.trans (hb.mono K0.out.size)); have EM1 := Bx.mk (EM0.out.below hb); have HA1 := Bx.mk (HA0.out.below hb); have HB1 := Bx.mk (HB0.out.below hb)
  clear hb K0 EM0 HA0 HB0
  go_wp2_with fail
  by_cases hgt : 1048576 < l1 + l2
  · have hbe : Calls Tryd.prog 8 #[.slice (some ⟨w2.heap.size, 0, none⟩) 2 2] (w2.alloc (.cells #[.int .i64 (l1 : Int), .int .i64 (l2 : Int)] 3)) fun e w' => e = .returned (.bool true) ∧ Below (w2.alloc (.cells #[.int .i64 (l1 : Int), .int .i64 (l2 : Int)] 3)).heap.size (w2.alloc (.cells #[.int .i64 (l1 : Int), .int .i64 (l2 : Int)] 3)) w' := by
      have c := beyond_any (w2.alloc (.cells #[.int .i64 (l1 : Int), .int .i64 (l2 : Int)] 3)) (.slice (some ⟨w2.heap.size, 0, none⟩) 2 2) [l1, l2] (ints_two _ _ _ _ rfl) (by have := M1.out; have := M2.out; simp; omega)
      rw [show decide (1048576 < [l1, l2].sum) = true from decide_eq_true (show 1048576 < l1 + (l2 + 0) by omega)] at c
      exact c.mono fun e w' h => ⟨h.1, h.2 ▸ Below.refl _ _⟩
    refine hbe.mono ?_
    clear hbe
    rintro e w4 ⟨rfl, hb⟩
    have hb := (er_al (Below.refl w2.heap.size w2) (.cells #[.int .i64 (l1 : Int), .int .i64 (l2 : Int)] 3)).trans (hb.mono (by simp))
    clear hgt
    have K2 := Bx.mk (K1.out.trans (hb.mono K1.out.size)); have EM2 := Bx.mk (EM1.out.below hb); have HA2 := Bx.mk (HA1.out.below hb); have HB2 := Bx.mk (HB1.out.below hb)
    clear hb K1 EM1 HA1 HB1
    go_wp2_with fail
    refine (alive10_any A w4 EM2.out).mono ?_
    rintro e w5 ⟨rfl, hb⟩
    go_wp2_with fail
    go_ret
    exact ⟨rfl, K2.out.trans (hb.mono K2.out.size)⟩
  · have hbe : Calls Tryd.prog 8 #[.slice (some ⟨w2.heap.size, 0, none⟩) 2 2] (w2.alloc (.cells #[.int .i64 (l1 : Int), .int .i64 (l2 : Int)] 3)) fun e w' => e = .returned (.bool false) ∧ Below (w2.alloc (.cells #[.int .i64 (l1 : Int), .int .i64 (l2 : Int)] 3)).heap.size (w2.alloc (.cells #[.int .i64 (l1 : Int), .int .i64 (l2 : Int)] 3)) w' := by
      have c := beyond_any (w2.alloc (.cells #[.int .i64 (l1 : Int), .int .i64 (l2 : Int)] 3)) (.slice (some ⟨w2.heap.size, 0, none⟩) 2 2) [l1, l2] (ints_two _ _ _ _ rfl) (by have := M1.out; have := M2.out; simp; omega)
      rw [show decide (1048576 < [l1, l2].sum) = false from decide_eq_false (show ¬ 1048576 < l1 + (l2 + 0) by omega)] at c
      exact c.mono fun e w' h => ⟨h.1, h.2 ▸ Below.refl _ _⟩
    refine hbe.mono ?_
    clear hbe
    rintro e w4 ⟨rfl, hb⟩
    have hb := (er_al (Below.refl w2.heap.size w2) (.cells #[.int .i64 (l1 : Int), .int .i64 (l2 : Int)] 3)).trans (hb.mono (by simp))
    have LL := Bx.mk (show l1 + l2 ≤ 1048576 by omega)
    clear hgt
    have K2 := Bx.mk (K1.out.trans (hb.mono K1.out.size)); have EM2 := Bx.mk (EM1.out.below hb); have HA2 := Bx.mk (HA1.out.below hb); have HB2 := Bx.mk (HB1.out.below hb)
    clear hb K1 EM1 HA1 HB1
    have Kw4 := K2; have EMw4 := EM2; have HBw4 := HB2
    go_wp2_with fail
    refine (bnew_any w4).mono ?_
    rintro e W ⟨a, rfl, hA, hb⟩
    have BA := Bx.mk hA; have BW := Bx.mk hb
    clear hA hb
    have ll := LL.out
    go_wp2_with fail
    go_loopw [6] (fun iv wr => ∃ (t : Nat) (ls : List (List UInt8)) (s : Value), t ≤ l1 ∧ iv = .int .i64 (t : Int) ∧ BuP w4.heap.size wr a t ls s ∧ ls.length = pcnt t ∧ Below w4.heap.size w4 wr) (fun iv _ => l1 - (intOf iv).toNat)
    case atStart => exact ⟨0, [], _, Nat.zero_le _, rfl, BA.out, rfl, BW.out⟩
    case round =>
      obtain ⟨t, ls, s, ht, rfl, hB, hlen, hb⟩ := hrel
      have Bt := Bx.mk hB; have LT := Bx.mk hlen
      clear hB hlen BA BW
      have BW := Bx.mk hb
      have K3 := Bx.mk (K2.out.trans (hb.mono K2.out.size)); have EM3 := Bx.mk (EM2.out.below hb); have HA3 := Bx.mk (HA2.out.below hb); have HB3 := Bx.mk (HB2.out.below hb)
      clear hb K2 EM2 HA2 HB2
      have EMr := EM3; have Kr := K3; have HAr := HA3; have HBr := HB3
      clear EM3 K3 HA3 HB3
      by_cases hlt : t < l1
      · obtain ⟨-, -, -, B2, off, e, hBl, hr0, hxl0⟩ := HAr.out.at t (by rw [← L1.out]; exact hlt)
        subst e
        obtain ⟨x, hx⟩ : ∃ px, px = h1[t]'(by rw [← L1.out]; exact hlt) := ⟨_, rfl⟩
        have hr : wr.rangeAt B2 (off + t * 32) (bcells x) := by rw [hx]; exact hr0
        have hxl : x.length = 32 := by rw [hx]; exact hxl0
        have RX := Bx.mk hr; have XL := Bx.mk hxl; have BL := Bx.mk hBl
        have f2 : ¬ (l1 : Int) ≤ (t : Int) := by omega
        have f3 : (t : Int) < (l1 : Int) := by omega
        have TL := Bx.mk hlt
        clear hr hxl hr0 hxl0 hx hBl hlt ht
        have ca := add_any A w4.heap.size wr a t ls s Bt.out LT.out (by have := TL.out; have := LL.out; omega) x XL.out EMr.out.hs EMr.out.tz EMr.out.lt BW.out.size
        rw [hv_agg] at ca
        have CA := Bx.mk ca; clear ca
        go_upto_region 7 with (fail)
        go_wp2_with (guard_target =~ wpList _ _ _ (⟨some 42, _, _, _, _, _⟩ :: _) _ _; refine wpList_load_mid rfl 33 (.tmp 41) rfl B2 (off + t * 32) rfl (bcells x) _ RX.out underH rfl (hszB' XL.out) ?_)
        refine CA.out.mono ?_
        clear CA
        rintro e u ⟨v, rfl, -, hk, s2, hB2, -⟩
        have B9 := Bx.mk hB2; have BW9 := Bx.mk (BW.out.trans (Bt.out.below0 hk BW.out.size))
        clear hk hB2
        go_wp2_with fail
        go_roundw
        case rel => exact ⟨t + 1, _, s2, TL.out, by have := TL.out; go_num, B9.out, lsB_length x LT.out (by have := TL.out; have := LL.out; omega), BW9.out⟩
        case measure => have := TL.out; simp [intOf]; omega
      · obtain rfl : t = l1 := by omega
        clear ht hlt
        obtain ⟨m, hm⟩ : ∃ m, m = ls.length := ⟨_, rfl⟩
        have LM := Bx.mk hm; have M64 := Bx.mk (show m ≤ 64 by rw [hm, LT.out]; exact pcnt_le _)
        clear hm
        go_upto_region 10 with (fail)
        have K0 := Kr; have EM0 := EMr; have HA0 := HAr; have HB0 := HBr; have BA0 := Bt; have BW0 := BW; clear Kr EMr HAr HBr Bt BW
        have cs := (bsize_any _ wr a _ _ _ BA0.out).mono fun e w' h => (⟨h.1, h.2 ▸ Below.refl _ _⟩ : e = .returned (.int .u64 (t : Int)) ∧ Below wr.heap.size wr w')
        go_wp2_with fail
        refine cs.mono ?_
        clear cs
        rintro e u1 ⟨rfl, hb⟩
        have K1 := Bx.mk (K0.out.trans (hb.mono K0.out.size)); have EM1 := Bx.mk (EM0.out.below hb); have HA1 := Bx.mk (HA0.out.below hb); have HB1 := Bx.mk (HB0.out.below hb); have BA1 := Bx.mk (BA0.out.below hb); have BW1 := Bx.mk (BW0.out.trans (hb.mono BW0.out.size))
        clear hb K0 EM0 HA0 HB0 BA0 BW0
        have ch := bhss_any _ u1 a _ _ _ m LM.out BA1.out (by have := M64.out; omega) u1.heap.size (Nat.le_refl _)
        go_wp2_with fail
        refine ch.mono ?_
        clear ch
        rintro e u2 ⟨v, rfl, ⟨hrow, -⟩, hb⟩
        obtain ⟨av, cv, rfl, -, -, hnil⟩ := own_shape hrow
        have HR0 := Bx.mk (hss_own hrow BA1.out.h32 LM.out); have HNIL := Bx.mk hnil
        clear hrow hnil
        have K2 := Bx.mk (K1.out.trans (hb.mono K1.out.size)); have EM2 := Bx.mk (EM1.out.below hb); have HA2 := Bx.mk (HA1.out.below hb); have HB2 := Bx.mk (HB1.out.below hb); have BA2 := Bx.mk (BA1.out.below hb); have BW2 := Bx.mk (BW1.out.trans (hb.mono BW1.out.size))
        clear hb K1 EM1 HA1 HB1 BA1 BW1
        have cl := load_any A u2 t (by have := M1.out; omega) av m cv ls HR0.out HNIL.out EM2.out.hs
        go_wp2_with fail
        refine cl.mono ?_
        clear cl
        rintro e u ⟨hP, hb⟩
        have NA1 : Bx (∀ k, BuS a s k → k < u2.heap.size) := ⟨fun k hk => BA2.out.lt k hk⟩
        have hle := Bx.mk BW2.out.size
        skip
        have K3 := Bx.mk (K2.out.trans (hb.mono K2.out.size)); have EM3 := Bx.mk (EM2.out.below hb); have HA3 := Bx.mk (HA2.out.below hb); have HB3 := Bx.mk (HB2.out.below hb); have BA3 := Bx.mk (BA2.out.below hb); have BW3 := Bx.mk (BW2.out.trans (hb.mono BW2.out.size))
        clear hb K2 EM2 HA2 HB2 BA2 BW2
        obtain ⟨b, sb, rfl, hB⟩ := load_ok hP (by have := M1.out; omega) LT.out
        have NCb : Bx (∀ k, BuS b sb k → u2.heap.size ≤ k) := ⟨fun k hk => hB.ge k hk⟩
        have BB0 := Bx.mk (hB.mono hle.out)
        clear hP hB HR0 HNIL hle
        have AB : Bx (∀ k, BuS a s k → ¬ BuS b sb k) := ⟨fun k h1 h2 => by have := NA1.out k h1; have := NCb.out k h2; omega⟩
        clear NA1 NCb
        go_upto_region 11 with (fail)
        have cs := (bsize_any _ u a _ _ _ BA3.out).mono fun e w' h => (⟨h.1, h.2 ▸ Below.refl _ _⟩ : e = .returned (.int .u64 (t : Int)) ∧ Below u.heap.size u w')
        go_wp2_with fail
        refine cs.mono ?_
        clear cs
        rintro e v1 ⟨rfl, hb⟩
        have K4 := Bx.mk (K3.out.trans (hb.mono K3.out.size)); have EM4 := Bx.mk (EM3.out.below hb); have HA4 := Bx.mk (HA3.out.below hb); have HB4 := Bx.mk (HB3.out.below hb); have BA4 := Bx.mk (BA3.out.below hb); have BW4 := Bx.mk (BW3.out.trans (hb.mono BW3.out.size)); have BB1 := Bx.mk (BB0.out.below hb)
        clear hb K3 EM3 HA3 HB3 BA3 BW3 BB0
        have ch := bhss_any _ v1 a _ _ _ m LM.out BA4.out (by have := M64.out; omega) v1.heap.size (Nat.le_refl _)
        go_wp2_with fail
        refine ch.mono ?_
        clear ch
        rintro e v2 ⟨v, rfl, ⟨hrow, -⟩, hb⟩
        obtain ⟨av, cv, rfl, -, -, hnil⟩ := own_shape hrow
        have HR0 := Bx.mk (hss_own hrow BA4.out.h32 LM.out); have HNIL := Bx.mk hnil
        clear hrow hnil
        have K5 := Bx.mk (K4.out.trans (hb.mono K4.out.size)); have EM5 := Bx.mk (EM4.out.below hb); have HA5 := Bx.mk (HA4.out.below hb); have HB5 := Bx.mk (HB4.out.below hb); have BA5 := Bx.mk (BA4.out.below hb); have BW5 := Bx.mk (BW4.out.trans (hb.mono BW4.out.size)); have BB2 := Bx.mk (BB1.out.below hb)
        clear hb K4 EM4 HA4 HB4 BA4 BW4 BB1
        have cl := load_any A v2 t (by have := M1.out; omega) av m cv ls HR0.out HNIL.out EM5.out.hs
        go_wp2_with fail
        refine cl.mono ?_
        clear cl
        rintro e v ⟨hP, hb⟩
        have NA2 : Bx (∀ k, BuS a s k → k < v2.heap.size) := ⟨fun k hk => BA5.out.lt k hk⟩
        have hle := Bx.mk BW5.out.size
        have NB : Bx (∀ k, BuS b sb k → k < v2.heap.size) := ⟨fun k hk => BB2.out.lt k hk⟩
        have K6 := Bx.mk (K5.out.trans (hb.mono K5.out.size)); have EM6 := Bx.mk (EM5.out.below hb); have HA6 := Bx.mk (HA5.out.below hb); have HB6 := Bx.mk (HB5.out.below hb); have BA6 := Bx.mk (BA5.out.below hb); have BW6 := Bx.mk (BW5.out.trans (hb.mono BW5.out.size)); have BB3 := Bx.mk (BB2.out.below hb)
        clear hb K5 EM5 HA5 HB5 BA5 BW5 BB2
        obtain ⟨z, sc, rfl, hB⟩ := load_ok hP (by have := M1.out; omega) LT.out
        have NCz : Bx (∀ k, BuS z sc k → v2.heap.size ≤ k) := ⟨fun k hk => hB.ge k hk⟩
        have BZ0 := Bx.mk (hB.mono hle.out)
        clear hP hB HR0 HNIL hle
        have CA : Bx (∀ k, BuS z sc k → ¬ BuS a s k) := ⟨fun k h1 h2 => by have := NA2.out k h2; have := NCz.out k h1; omega⟩
        have CB : Bx (∀ k, BuS z sc k → ¬ BuS b sb k) := ⟨fun k h1 h2 => by have := NB.out k h2; have := NCz.out k h1; omega⟩
        clear NA2 NCz NB
        go_upto_region 14 with (fail)
        obtain ⟨R, hR⟩ : ∃ R, R = upB ls := ⟨_, rfl⟩
        have HR := Bx.mk hR; have R32 := Bx.mk (show R.length = 32 by rw [hR]; exact upB_length _ BA6.out.h32)
        clear hR
        have CR : Bx (∀ u, Below v.heap.size v u → Calls Tryd.prog 14 #[.pointer (some ⟨a, 0, none⟩)] u fun e w' => e = .returned (.agg (ocells R)) ∧ Below u.heap.size u w') := ⟨fun u hu => by
          have c := broot_any _ u a _ _ _ (BA6.out.below hu) (EM6.out.below hu).hs.tab (by rw [← LM.out]; exact M64.out)
          rwa [← HR.out, hv_agg] at c⟩
        refine wp_region_seq8 (n := 149) VM14mk (fun _ => none) (VM14 a R) (by kernel_rfl) rfl (fun _ _ => rfl) (fun _ _ _ _ h => by cases h) ?_ ?_ ?_
        · exact fun oi oj v own w own' w' hij h r => VM14_mono a R oi oj v own w own' w' (by omega)  h r
        · intro oi o hi f u own hsame hsn hfr hlate hkeep8 hdep
          have hkeep := hkeep8 _ (Nat.le_refl _)
          have hb6 := hsn.below (B := v.heap.size) (fun _ _ => rfl) (Nat.le_refl _)
          match oi, hi with
          | 0, hi =>
            cases (show some _ = some o from hi)
            have e5 : f.tmps.getD 5 undef = .pointer (some ⟨a, 0, none⟩) := hlate 5 (earlyS (by kernel_rfl))
            clear hdep hsame hi hlate hfr hkeep
            exact .inl ⟨wanted_none rfl, showsO_move hsn rfl _ rfl e5⟩
          | 1, hi =>
            cases (show some _ = some o from hi)
            have e78 : (f.tmps.getD 78 undef) = .pointer (some ⟨a, 0, none⟩) := depS (V := (VM14 a R)) hdep 0 78 (by decide) (by kernel_rfl)
            clear hdep hsame hi hlate hfr hkeep
            have c := CR.out u hb6
            exact .inl ⟨wanted_none rfl, showsO_call1 hsn rfl 14 #[.pointer (some ⟨a, 0, none⟩)] (by simp only [execOp, Act.eval]; go_simp) (c) (fun _ => rfl)⟩
          | 2, hi =>
            cases (show some _ = some o from hi)
            clear hdep hsame hi hlate hkeep
            exact .inl ⟨wanted_none rfl, showsO_alloc hsn hfr rfl zeros32 33 3 rfl (by simp only [execOp, Act.eval]; go_simp; rfl) (fun h => h)⟩
          | 3, hi =>
            cases (show some _ = some o from hi)
            have e13 : AllocV own u (f.tmps.getD 13 undef) 3 33 32 := depS (V := (VM14 a R)) hdep 2 13 (by decide) (by kernel_rfl)
            have e79 : (f.tmps.getD 79 undef) = .agg (ocells (R)) := depS (V := (VM14 a R)) hdep 1 79 (by decide) (by kernel_rfl)
            clear hdep hsame hi hlate hfr hkeep
            exact .inl ⟨wanted_none rfl, showsO_store_alloc hsn rfl 33 (.tmp 13) (.tmp 79) rfl e13 (ocells (R)) e79 (hszL R32.out) (by rw [ocells_size, R32.out]) (ocells_one _) (fun _ h => h)⟩
          | n + 4, hi => exact absurd hi (by simp)
        intro f v3 own hsame hsn hall
        have q78 : f.tmps.getD 78 undef = .pointer (some ⟨a, 0, none⟩) := finO (V := (VM14 a R)) hall 0 78 rfl
        have q79 : f.tmps.getD 79 undef = .agg (ocells (R)) := finO (V := (VM14 a R)) hall 1 79 rfl
        obtain ⟨g13, q13, o13, m13⟩ := AllocV.stored (finO (V := (VM14 a R)) hall 2 13 rfl) (finN (V := (VM14 a R)) hall 3 rfl)
        obtain rfl := frame_eq hsame [(78, .pointer (some ⟨a, 0, none⟩)), (79, .agg (ocells (R))), (13, .pointer (some ⟨g13, 0, none⟩))] (by kernel_rfl) ⟨q78, q79, q13, trivial⟩
        clear hall hsame q78 q79 q13
        simp only [List.foldl, List.setIfInBounds_toArray, List.set_cons_succ, List.set_cons_zero]
        have hb := hsn.below (B := v.heap.size) (fun _ _ => rfl) (Nat.le_refl _)
        have ge := Bx.mk (hsn.ge o13 (fun _ _ h => by cases h))
        have GA : Bx (¬ BuS a s g13) := ⟨fun h => by have := BA6.out.lt _ h; have := ge.out; omega⟩
        have GB : Bx (¬ BuS b sb g13) := ⟨fun h => by have := BB3.out.lt _ h; have := ge.out; omega⟩
        have K7 := Bx.mk (K6.out.trans (hb.mono K6.out.size)); have EM7 := Bx.mk (EM6.out.below hb); have HA7 := Bx.mk (HA6.out.below hb); have HB7 := Bx.mk (HB6.out.below hb); have BA7 := Bx.mk (BA6.out.below hb); have BW7 := Bx.mk (BW6.out.trans (hb.mono BW6.out.size)); have BB4 := Bx.mk (BB3.out.below hb); have BZ1 := Bx.mk (BZ0.out.below hb)
        clear hb K6 EM6 HA6 HB6 BA6 BW6 BB3 BZ0
        have TH := Bx.mk (show ThreeB w4.heap.size v3 a b z t t t ls ls ls s sb sc g13 R from ⟨BA7.out, BB4.out, BZ1.out, AB.out, CA.out, CB.out, m13, GA.out, GB.out, BW7.out.size⟩)
        have BW := BW7; have KW := K7
        clear hsn o13 m13 CR ge GA GB AB CA CB BA7 BB4 BZ1 HA7 BW7 K7
        have ll := LL.out
        go_wp2_with fail
        go_loopw [14] (fun iv wr => ∃ (j : Nat) (la : List (List UInt8)) (sa sb : Value), j ≤ l2 ∧ iv = .int .i64 (j : Int) ∧ ThreeB w4.heap.size wr a b z (t + j) (t + j) t la la ls sa sb sc g13 R ∧ la.length = pcnt (t + j) ∧ Below w4.heap.size w4 wr) (fun iv _ => l2 - (intOf iv).toNat)
        case atStart => exact ⟨0, ls, s, sb, Nat.zero_le _, rfl, TH.out, LT.out, BW.out⟩
        case round =>
          obtain ⟨j, la, sa, sb', hj, rfl, hT, hlen, hb⟩ := hrel
          have T0 := Bx.mk hT; have LJ := Bx.mk hlen; have W0 := Bx.mk hb
          have EMr := Bx.mk (EMw4.out.below hb)
          clear hT hlen hb TH BW LT
          by_cases hlt : j < l2
          · obtain ⟨-, -, -, B2, off, e, hBl, hr0, hxl0⟩ := HBw4.out.at j (by rw [← L2.out]; exact hlt)
            subst e
            obtain ⟨x, hx⟩ : ∃ px, px = h2[j]'(by rw [← L2.out]; exact hlt) := ⟨_, rfl⟩
            have hr : w4.rangeAt B2 (off + j * 32) (bcells x) := by rw [hx]; exact hr0
            have hxl : x.length = 32 := by rw [hx]; exact hxl0
            have RX := Bx.mk hr; have XL := Bx.mk hxl; have BL := Bx.mk hBl
            have f2 : ¬ (l2 : Int) ≤ (j : Int) := by omega
            have f3 : (j : Int) < (l2 : Int) := by omega
            have TL := Bx.mk hlt
            clear hr hxl hr0 hxl0 hx hBl hlt hj
            have RXr := Bx.mk (rangeAt_below RX.out BL.out W0.out)
            have LS := Bx.mk (show t + j + 1 ≤ 1048576 by have := TL.out; have := LL.out; omega)
            have ca := add_any A w4.heap.size wr a (t + j) la sa T0.out.A LJ.out (by have := LS.out; omega) x XL.out EMr.out.hs EMr.out.tz EMr.out.lt W0.out.size
            rw [hv_agg] at ca
            have CA := Bx.mk ca; clear ca
            go_upto_region 18 with (fail)
            go_wp2_with (guard_target =~ wpList _ _ _ (⟨some 91, _, _, _, _, _⟩ :: _) _ _; refine wpList_load_mid rfl 33 (.tmp 90) rfl B2 (off + j * 32) rfl (bcells x) _ RXr.out underH rfl (hszB' XL.out) ?_)
            refine CA.out.mono ?_
            clear CA
            rintro e u1 ⟨v15, rfl, hR⟩
            obtain ⟨sa2, hT1, hb1⟩ := T0.out.addA hR
            have O15 := Bx.mk hR.1
            obtain ⟨a15, c15, rfl, -, -, -⟩ := own_shape hR.1
            have T1 := Bx.mk hT1; have W1 := Bx.mk (W0.out.trans hb1); have RX1 := Bx.mk (rangeAt_below RX.out BL.out (W0.out.trans hb1))
            have EM1 := Bx.mk (EMw4.out.below W1.out)
            clear hR hT1 hb1 EMr RX RXr
            have ca := add_any A w4.heap.size u1 b (t + j) la sb' T1.out.B LJ.out (by have := LS.out; omega) x XL.out EM1.out.hs EM1.out.tz EM1.out.lt W1.out.size
            rw [hv_agg] at ca
            have CA := Bx.mk ca; clear ca
            go_upto_region 19 with (fail)
            go_wp2_with (guard_target =~ wpList _ _ _ (⟨some 100, _, _, _, _, _⟩ :: _) _ _; refine wpList_load_mid rfl 33 (.tmp 99) rfl B2 (off + j * 32) rfl (bcells x) _ RX1.out underH rfl (hszB' XL.out) ?_)
            refine CA.out.mono ?_
            clear CA
            rintro e u2 ⟨v17, rfl, hR⟩
            obtain ⟨sb2, hT2, hb2⟩ := T1.out.addB hR
            have O17 := Bx.mk hR.1
            obtain ⟨a17, c17, rfl, -, -, -⟩ := own_shape hR.1
            have O16 := Bx.mk (own_keep O15.out hR.2.1 (T1.out.B.apartN O15.out))
            have T2 := Bx.mk hT2; have W2 := Bx.mk (W1.out.trans hb2)
            have EM2 := Bx.mk (EMw4.out.below W2.out)
            clear hR hT2 hb2 EM1 RX1 O15 T0 T1 W0 W1
            obtain ⟨q, hq⟩ : ∃ q, q = tones (t + j) + 1 := ⟨_, rfl⟩
            have O16b := O16.out; have O17b := O17.out
            rw [← hq] at O16b O17b ⊢
            obtain ⟨NS, hNS⟩ : ∃ NS, NS = nodesB (t + j) la x q := ⟨_, rfl⟩
            rw [← hNS] at O16b O17b
            have NL : Bx (q = NS.length) := ⟨by rw [hNS, nodesB_length]⟩
            have N32 : Bx (∀ y ∈ NS, y.2.2.length = 32) := ⟨by rw [hNS]; exact nodesB_mem XL.out q⟩
            have P16 := Bx.mk O16b; have P17 := Bx.mk O17b
            clear O16 O17 O16b O17b hq hNS
            obtain ⟨lz, hlz⟩ : ∃ lz, lz = lsB (t + j) la x := ⟨_, rfl⟩
            have hlz2 := lsB_length x LJ.out (show t + j + 1 < 18446744073709551616 by have := LS.out; omega)
            have T3 := T2.out
            rw [← hlz] at hlz2 T3
            have LZ := Bx.mk hlz2; have T4 := Bx.mk T3
            clear T2 T3 hlz hlz2
            obtain ⟨RZ, hRZ⟩ : ∃ RZ, RZ = upB lz := ⟨_, rfl⟩
            have RZ32 := Bx.mk (show RZ.length = 32 by rw [hRZ]; exact upB_length _ T4.out.A.h32)
            have HRZ := Bx.mk hRZ
            clear hRZ
            obtain ⟨N1, hN1⟩ : ∃ N1, N1 = t + j + 1 := ⟨_, rfl⟩
            have T5 := T4.out
            rw [← hN1] at T5
            have T6 := Bx.mk T5; have HN1 := Bx.mk hN1
            clear T4 T5 hN1
            have CRa : Bx (∀ u, Below u2.heap.size u2 u → Calls Tryd.prog 14 #[.pointer (some ⟨a, 0, none⟩)] u fun e w' => e = .returned (.agg (ocells RZ)) ∧ Below u.heap.size u w') := ⟨fun u hu => by
              have c := broot_any _ u a _ _ _ (T6.out.A.below hu) (EM2.out.below hu).hs.tab (by rw [LZ.out]; exact pcnt_le _)
              rwa [← HRZ.out, hv_agg] at c⟩
            have CRb : Bx (∀ u, Below u2.heap.size u2 u → Calls Tryd.prog 14 #[.pointer (some ⟨b, 0, none⟩)] u fun e w' => e = .returned (.agg (ocells RZ)) ∧ Below u.heap.size u w') := ⟨fun u hu => by
              have c := broot_any _ u b _ _ _ (T6.out.B.below hu) (EM2.out.below hu).hs.tab (by rw [LZ.out]; exact pcnt_le _)
              rwa [← HRZ.out, hv_agg] at c⟩
            have CSa : Bx (∀ u, Below u2.heap.size u2 u → Calls Tryd.prog 12 #[.pointer (some ⟨a, 0, none⟩)] u fun e w' => e = .returned (.int .u64 (N1 : Int)) ∧ Below u.heap.size u w') := ⟨fun u hu => (bsize_any _ u a _ _ _ (T6.out.A.below hu)).mono fun e w' h => ⟨h.1, h.2 ▸ Below.refl _ _⟩⟩
            have CSb : Bx (∀ u, Below u2.heap.size u2 u → Calls Tryd.prog 12 #[.pointer (some ⟨b, 0, none⟩)] u fun e w' => e = .returned (.int .u64 (N1 : Int)) ∧ Below u.heap.size u w') := ⟨fun u hu => (bsize_any _ u b _ _ _ (T6.out.B.below hu)).mono fun e w' h => ⟨h.1, h.2 ▸ Below.refl _ _⟩⟩
            go_upto_region 20 with (fail)
            refine wp_region_seq8 (n := 149) VM20mk (fun _ => none) (VM20 a b q c15 c17 N1 a15 a17 RZ) (by kernel_rfl) rfl (fun _ _ => rfl) (fun j i hj _ => by cases hj) ?_ ?_ ?_
            · exact fun oi oj v own w own' w' hij h r => VM20_mono a b q c15 c17 N1 a15 a17 RZ oi oj v own w own' w' (by omega)  h r
            · intro oi o hi f u own hsame hsn hfr hlate hkeep8 hdep
              have hkeep := hkeep8 _ (Nat.le_refl _)
              have hb6 := hsn.below (B := u2.heap.size) (fun _ _ => rfl) (Nat.le_refl _)
              match oi, hi with
              | 0, hi =>
                cases (show some _ = some o from hi)
                have e16 : f.tmps.getD 16 undef = .nilIface := hlate 16 (earlyS (by kernel_rfl))
                clear hdep hsame hi hlate hfr hkeep
                exact .inl ⟨wanted_none rfl, showsO_move hsn rfl _ rfl e16⟩
              | 1, hi =>
                cases (show some _ = some o from hi)
                have e104 : (f.tmps.getD 104 undef) = .nilIface := depS (V := (VM20 a b q c15 c17 N1 a15 a17 RZ)) hdep 0 104 (by decide) (by kernel_rfl)
                clear hdep hsame hi hlate hfr hkeep
                exact .inl ⟨wanted_none rfl, showsO_pure hsn rfl (.bool false) (by simp only [execOp, Act.eval]; go_simp) rfl⟩
              | 2, hi =>
                cases (show some _ = some o from hi)
                have e105 : (f.tmps.getD 105 undef) = .bool false := depS (V := (VM20 a b q c15 c17 N1 a15 a17 RZ)) hdep 1 105 (by decide) (by kernel_rfl)
                clear hdep hsame hi hlate hfr hkeep
                exact .inl ⟨wanted_none rfl, showsO_move hsn rfl _ rfl e105⟩
              | 3, hi =>
                cases (show some _ = some o from hi)
                have e18 : f.tmps.getD 18 undef = .nilIface := hlate 18 (earlyS (by kernel_rfl))
                have eg : f.tmps.getD 106 undef = .bool false := depS (V := (VM20 a b q c15 c17 N1 a15 a17 RZ)) hdep 2 106 (by decide) (by kernel_rfl)
                clear hdep hsame hi hlate hfr hkeep
                exact .inl ⟨wanted_of 2 rfl eg (by kernel_rfl), showsO_move hsn rfl _ rfl e18⟩
              | 4, hi =>
                cases (show some _ = some o from hi)
                have e107 : (f.tmps.getD 107 undef) = .nilIface := depS (V := (VM20 a b q c15 c17 N1 a15 a17 RZ)) hdep 3 107 (by decide) (by kernel_rfl)
                have eg : f.tmps.getD 106 undef = .bool false := depS (V := (VM20 a b q c15 c17 N1 a15 a17 RZ)) hdep 2 106 (by decide) (by kernel_rfl)
                clear hdep hsame hi hlate hfr hkeep
                exact .inl ⟨wanted_of 2 rfl eg (by kernel_rfl), showsO_pure hsn rfl (.bool false) (by simp only [execOp, Act.eval]; go_simp) rfl⟩
              | 5, hi =>
                cases (show some _ = some o from hi)
                have e106 : (f.tmps.getD 106 undef) = .bool false := depS (V := (VM20 a b q c15 c17 N1 a15 a17 RZ)) hdep 2 106 (by decide) (by kernel_rfl)
                have e108 : (f.tmps.getD 108 undef) = .bool false := depS (V := (VM20 a b q c15 c17 N1 a15 a17 RZ)) hdep 4 108 (by decide) (by kernel_rfl)
                clear hdep hsame hi hlate hfr hkeep
                exact .inl ⟨wanted_none rfl, showsO_pure hsn rfl (.bool false) (by simp only [execOp, Act.eval]; go_simp) rfl⟩
              | 6, hi =>
                cases (show some _ = some o from hi)
                have e109 : (f.tmps.getD 109 undef) = .bool false := depS (V := (VM20 a b q c15 c17 N1 a15 a17 RZ)) hdep 5 109 (by decide) (by kernel_rfl)
                clear hdep hsame hi hlate hfr hkeep
                exact .inl ⟨wanted_none rfl, showsO_move hsn rfl _ rfl e109⟩
              | 7, hi =>
                cases (show some _ = some o from hi)
                have e15 : f.tmps.getD 15 undef = .slice a15 q c15 := hlate 15 (earlyS (by kernel_rfl))
                have eg : f.tmps.getD 110 undef = .bool false := depS (V := (VM20 a b q c15 c17 N1 a15 a17 RZ)) hdep 6 110 (by decide) (by kernel_rfl)
                clear hdep hsame hi hlate hfr hkeep
                exact .inl ⟨wanted_of 6 rfl eg (by kernel_rfl), showsO_move hsn rfl _ rfl e15⟩
              | 8, hi =>
                cases (show some _ = some o from hi)
                have e17 : f.tmps.getD 17 undef = .slice a17 q c17 := hlate 17 (earlyS (by kernel_rfl))
                have eg : f.tmps.getD 110 undef = .bool false := depS (V := (VM20 a b q c15 c17 N1 a15 a17 RZ)) hdep 6 110 (by decide) (by kernel_rfl)
                clear hdep hsame hi hlate hfr hkeep
                exact .inl ⟨wanted_of 6 rfl eg (by kernel_rfl), showsO_move hsn rfl _ rfl e17⟩
              | 9, hi =>
                cases (show some _ = some o from hi)
                have e111 : (f.tmps.getD 111 undef) = .slice a15 q c15 := depS (V := (VM20 a b q c15 c17 N1 a15 a17 RZ)) hdep 7 111 (by decide) (by kernel_rfl)
                have e112 : (f.tmps.getD 112 undef) = .slice a17 q c17 := depS (V := (VM20 a b q c15 c17 N1 a15 a17 RZ)) hdep 8 112 (by decide) (by kernel_rfl)
                have eg : f.tmps.getD 110 undef = .bool false := depS (V := (VM20 a b q c15 c17 N1 a15 a17 RZ)) hdep 6 110 (by decide) (by kernel_rfl)
                clear hdep hsame hi hlate hfr hkeep
                have c := sameN_any u a15 q c15 NS a17 q c17 NS (nss_own (own_keep P16.out (Keep.of_below hb6 (fun _ => False)) (fun _ _ h => h)) N32.out NL.out) (nss_own (own_keep P17.out (Keep.of_below hb6 (fun _ => False)) (fun _ _ h => h)) N32.out NL.out)
                rw [beq_self_eq_true] at c
                exact .inl ⟨wanted_of 6 rfl eg (by kernel_rfl), showsO_call1 hsn rfl 15 #[.slice a15 q c15, .slice a17 q c17] (by simp only [execOp, Act.eval]; go_simp) (c) (fun _ => rfl)⟩
              | 10, hi =>
                cases (show some _ = some o from hi)
                have e113 : (f.tmps.getD 113 undef) = .bool true := depS (V := (VM20 a b q c15 c17 N1 a15 a17 RZ)) hdep 9 113 (by decide) (by kernel_rfl)
                have eg : f.tmps.getD 110 undef = .bool false := depS (V := (VM20 a b q c15 c17 N1 a15 a17 RZ)) hdep 6 110 (by decide) (by kernel_rfl)
                clear hdep hsame hi hlate hfr hkeep
                exact .inl ⟨wanted_of 6 rfl eg (by kernel_rfl), showsO_pure hsn rfl (.bool false) (by simp only [execOp, Act.eval]; go_simp) rfl⟩
              | 11, hi =>
                cases (show some _ = some o from hi)
                have e110 : (f.tmps.getD 110 undef) = .bool false := depS (V := (VM20 a b q c15 c17 N1 a15 a17 RZ)) hdep 6 110 (by decide) (by kernel_rfl)
                have e114 : (f.tmps.getD 114 undef) = .bool false := depS (V := (VM20 a b q c15 c17 N1 a15 a17 RZ)) hdep 10 114 (by decide) (by kernel_rfl)
                clear hdep hsame hi hlate hfr hkeep
                exact .inl ⟨wanted_none rfl, showsO_pure hsn rfl (.bool false) (by simp only [execOp, Act.eval]; go_simp) rfl⟩
              | 12, hi =>
                cases (show some _ = some o from hi)
                have e115 : (f.tmps.getD 115 undef) = .bool false := depS (V := (VM20 a b q c15 c17 N1 a15 a17 RZ)) hdep 11 115 (by decide) (by kernel_rfl)
                clear hdep hsame hi hlate hfr hkeep
                exact .inl ⟨wanted_none rfl, showsO_move hsn rfl _ rfl e115⟩
              | 13, hi =>
                cases (show some _ = some o from hi)
                have e5 : f.tmps.getD 5 undef = .pointer (some ⟨a, 0, none⟩) := hlate 5 (earlyS (by kernel_rfl))
                have eg : f.tmps.getD 116 undef = .bool false := depS (V := (VM20 a b q c15 c17 N1 a15 a17 RZ)) hdep 12 116 (by decide) (by kernel_rfl)
                clear hdep hsame hi hlate hfr hkeep
                exact .inl ⟨wanted_of 12 rfl eg (by kernel_rfl), showsO_move hsn rfl _ rfl e5⟩
              | 14, hi =>
                cases (show some _ = some o from hi)
                have e117 : (f.tmps.getD 117 undef) = .pointer (some ⟨a, 0, none⟩) := depS (V := (VM20 a b q c15 c17 N1 a15 a17 RZ)) hdep 13 117 (by decide) (by kernel_rfl)
                have eg : f.tmps.getD 116 undef = .bool false := depS (V := (VM20 a b q c15 c17 N1 a15 a17 RZ)) hdep 12 116 (by decide) (by kernel_rfl)
                clear hdep hsame hi hlate hfr hkeep
                have c := CRa.out u hb6
                exact .inl ⟨wanted_of 12 rfl eg (by kernel_rfl), showsO_call1 hsn rfl 14 #[.pointer (some ⟨a, 0, none⟩)] (by simp only [execOp, Act.eval]; go_simp) (c) (fun _ => rfl)⟩
              | 15, hi =>
                cases (show some _ = some o from hi)
                have e9 : f.tmps.getD 9 undef = .pointer (some ⟨b, 0, none⟩) := hlate 9 (earlyS (by kernel_rfl))
                have eg : f.tmps.getD 116 undef = .bool false := depS (V := (VM20 a b q c15 c17 N1 a15 a17 RZ)) hdep 12 116 (by decide) (by kernel_rfl)
                clear hdep hsame hi hlate hfr hkeep
                exact .inl ⟨wanted_of 12 rfl eg (by kernel_rfl), showsO_move hsn rfl _ rfl e9⟩
              | 16, hi =>
                cases (show some _ = some o from hi)
                have e119 : (f.tmps.getD 119 undef) = .pointer (some ⟨b, 0, none⟩) := depS (V := (VM20 a b q c15 c17 N1 a15 a17 RZ)) hdep 15 119 (by decide) (by kernel_rfl)
                have eg : f.tmps.getD 116 undef = .bool false := depS (V := (VM20 a b q c15 c17 N1 a15 a17 RZ)) hdep 12 116 (by decide) (by kernel_rfl)
                clear hdep hsame hi hlate hfr hkeep
                have c := CRb.out u hb6
                exact .inl ⟨wanted_of 12 rfl eg (by kernel_rfl), showsO_call1 hsn rfl 14 #[.pointer (some ⟨b, 0, none⟩)] (by simp only [execOp, Act.eval]; go_simp) (c) (fun _ => rfl)⟩
              | 17, hi =>
                cases (show some _ = some o from hi)
                have e118 : (f.tmps.getD 118 undef) = .agg (ocells (RZ)) := depS (V := (VM20 a b q c15 c17 N1 a15 a17 RZ)) hdep 14 118 (by decide) (by kernel_rfl)
                have e120 : (f.tmps.getD 120 undef) = .agg (ocells (RZ)) := depS (V := (VM20 a b q c15 c17 N1 a15 a17 RZ)) hdep 16 120 (by decide) (by kernel_rfl)
                have eg : f.tmps.getD 116 undef = .bool false := depS (V := (VM20 a b q c15 c17 N1 a15 a17 RZ)) hdep 12 116 (by decide) (by kernel_rfl)
                clear hdep hsame hi hlate hfr hkeep
                have q := fun u => hv_neq u (RZ) (RZ) RZ32.out RZ32.out
                simp only [hv_agg, beq_self_eq_true, Bool.not_true] at q
                exact .inl ⟨wanted_of 12 rfl eg (by kernel_rfl), showsO_pure hsn rfl (.bool false) (by simp only [execOp, Act.eval]; go_simp) rfl⟩
              | 18, hi =>
                cases (show some _ = some o from hi)
                have e116 : (f.tmps.getD 116 undef) = .bool false := depS (V := (VM20 a b q c15 c17 N1 a15 a17 RZ)) hdep 12 116 (by decide) (by kernel_rfl)
                have e121 : (f.tmps.getD 121 undef) = .bool false := depS (V := (VM20 a b q c15 c17 N1 a15 a17 RZ)) hdep 17 121 (by decide) (by kernel_rfl)
                clear hdep hsame hi hlate hfr hkeep
                exact .inl ⟨wanted_none rfl, showsO_pure hsn rfl (.bool false) (by simp only [execOp, Act.eval]; go_simp) rfl⟩
              | 19, hi =>
                cases (show some _ = some o from hi)
                have e122 : (f.tmps.getD 122 undef) = .bool false := depS (V := (VM20 a b q c15 c17 N1 a15 a17 RZ)) hdep 18 122 (by decide) (by kernel_rfl)
                clear hdep hsame hi hlate hfr hkeep
                exact .inl ⟨wanted_none rfl, showsO_move hsn rfl _ rfl e122⟩
              | 20, hi =>
                cases (show some _ = some o from hi)
                have e5 : f.tmps.getD 5 undef = .pointer (some ⟨a, 0, none⟩) := hlate 5 (earlyS (by kernel_rfl))
                have eg : f.tmps.getD 123 undef = .bool false := depS (V := (VM20 a b q c15 c17 N1 a15 a17 RZ)) hdep 19 123 (by decide) (by kernel_rfl)
                clear hdep hsame hi hlate hfr hkeep
                exact .inl ⟨wanted_of 19 rfl eg (by kernel_rfl), showsO_move hsn rfl _ rfl e5⟩
              | 21, hi =>
                cases (show some _ = some o from hi)
                have e124 : (f.tmps.getD 124 undef) = .pointer (some ⟨a, 0, none⟩) := depS (V := (VM20 a b q c15 c17 N1 a15 a17 RZ)) hdep 20 124 (by decide) (by kernel_rfl)
                have eg : f.tmps.getD 123 undef = .bool false := depS (V := (VM20 a b q c15 c17 N1 a15 a17 RZ)) hdep 19 123 (by decide) (by kernel_rfl)
                clear hdep hsame hi hlate hfr hkeep
                have c := CSa.out u hb6
                exact .inl ⟨wanted_of 19 rfl eg (by kernel_rfl), showsO_call1 hsn rfl 12 #[.pointer (some ⟨a, 0, none⟩)] (by simp only [execOp, Act.eval]; go_simp) (c) (fun _ => rfl)⟩
              | 22, hi =>
                cases (show some _ = some o from hi)
                have e9 : f.tmps.getD 9 undef = .pointer (some ⟨b, 0, none⟩) := hlate 9 (earlyS (by kernel_rfl))
                have eg : f.tmps.getD 123 undef = .bool false := depS (V := (VM20 a b q c15 c17 N1 a15 a17 RZ)) hdep 19 123 (by decide) (by kernel_rfl)
                clear hdep hsame hi hlate hfr hkeep
                exact .inl ⟨wanted_of 19 rfl eg (by kernel_rfl), showsO_move hsn rfl _ rfl e9⟩
              | 23, hi =>
                cases (show some _ = some o from hi)
                have e126 : (f.tmps.getD 126 undef) = .pointer (some ⟨b, 0, none⟩) := depS (V := (VM20 a b q c15 c17 N1 a15 a17 RZ)) hdep 22 126 (by decide) (by kernel_rfl)
                have eg : f.tmps.getD 123 undef = .bool false := depS (V := (VM20 a b q c15 c17 N1 a15 a17 RZ)) hdep 19 123 (by decide) (by kernel_rfl)
                clear hdep hsame hi hlate hfr hkeep
                have c := CSb.out u hb6
                exact .inl ⟨wanted_of 19 rfl eg (by kernel_rfl), showsO_call1 hsn rfl 12 #[.pointer (some ⟨b, 0, none⟩)] (by simp only [execOp, Act.eval]; go_simp) (c) (fun _ => rfl)⟩
              | 24, hi =>
                cases (show some _ = some o from hi)
                have e125 : (f.tmps.getD 125 undef) = .int .u64 (N1 : Int) := depS (V := (VM20 a b q c15 c17 N1 a15 a17 RZ)) hdep 21 125 (by decide) (by kernel_rfl)
                have e127 : (f.tmps.getD 127 undef) = .int .u64 (N1 : Int) := depS (V := (VM20 a b q c15 c17 N1 a15 a17 RZ)) hdep 23 127 (by decide) (by kernel_rfl)
                have eg : f.tmps.getD 123 undef = .bool false := depS (V := (VM20 a b q c15 c17 N1 a15 a17 RZ)) hdep 19 123 (by decide) (by kernel_rfl)
                clear hdep hsame hi hlate hfr hkeep
                exact .inl ⟨wanted_of 19 rfl eg (by kernel_rfl), showsO_pure hsn rfl (.bool false) (by simp only [execOp, Act.eval]; go_simp) rfl⟩
              | 25, hi =>
                cases (show some _ = some o from hi)
                have e123 : (f.tmps.getD 123 undef) = .bool false := depS (V := (VM20 a b q c15 c17 N1 a15 a17 RZ)) hdep 19 123 (by decide) (by kernel_rfl)
                have e128 : (f.tmps.getD 128 undef) = .bool false := depS (V := (VM20 a b q c15 c17 N1 a15 a17 RZ)) hdep 24 128 (by decide) (by kernel_rfl)
                clear hdep hsame hi hlate hfr hkeep
                exact .inl ⟨wanted_none rfl, showsO_pure hsn rfl (.bool false) (by simp only [execOp, Act.eval]; go_simp) rfl⟩
              | n + 26, hi => exact absurd hi (by simp)
            intro f u3 own hsame hsn hall
            have q104 : f.tmps.getD 104 undef = .nilIface := finO (V := (VM20 a b q c15 c17 N1 a15 a17 RZ)) hall 0 104 rfl
            have q105 : f.tmps.getD 105 undef = .bool false := finO (V := (VM20 a b q c15 c17 N1 a15 a17 RZ)) hall 1 105 rfl
            have q106 : f.tmps.getD 106 undef = .bool false := finO (V := (VM20 a b q c15 c17 N1 a15 a17 RZ)) hall 2 106 rfl
            have q107 : f.tmps.getD 107 undef = .nilIface := finO (V := (VM20 a b q c15 c17 N1 a15 a17 RZ)) hall 3 107 rfl
            have q108 : f.tmps.getD 108 undef = .bool false := finO (V := (VM20 a b q c15 c17 N1 a15 a17 RZ)) hall 4 108 rfl
            have q109 : f.tmps.getD 109 undef = .bool false := finO (V := (VM20 a b q c15 c17 N1 a15 a17 RZ)) hall 5 109 rfl
            have q110 : f.tmps.getD 110 undef = .bool false := finO (V := (VM20 a b q c15 c17 N1 a15 a17 RZ)) hall 6 110 rfl
            have q111 : f.tmps.getD 111 undef = .slice a15 q c15 := finO (V := (VM20 a b q c15 c17 N1 a15 a17 RZ)) hall 7 111 rfl
            have q112 : f.tmps.getD 112 undef = .slice a17 q c17 := finO (V := (VM20 a b q c15 c17 N1 a15 a17 RZ)) hall 8 112 rfl
            have q113 : f.tmps.getD 113 undef = .bool true := finO (V := (VM20 a b q c15 c17 N1 a15 a17 RZ)) hall 9 113 rfl
            have q114 : f.tmps.getD 114 undef = .bool false := finO (V := (VM20 a b q c15 c17 N1 a15 a17 RZ)) hall 10 114 rfl
            have q115 : f.tmps.getD 115 undef = .bool false := finO (V := (VM20 a b q c15 c17 N1 a15 a17 RZ)) hall 11 115 rfl
            have q116 : f.tmps.getD 116 undef = .bool false := finO (V := (VM20 a b q c15 c17 N1 a15 a17 RZ)) hall 12 116 rfl
            have q117 : f.tmps.getD 117 undef = .pointer (some ⟨a, 0, none⟩) := finO (V := (VM20 a b q c15 c17 N1 a15 a17 RZ)) hall 13 117 rfl
            have q118 : f.tmps.getD 118 undef = .agg (ocells (RZ)) := finO (V := (VM20 a b q c15 c17 N1 a15 a17 RZ)) hall 14 118 rfl
            have q119 : f.tmps.getD 119 undef = .pointer (some ⟨b, 0, none⟩) := finO (V := (VM20 a b q c15 c17 N1 a15 a17 RZ)) hall 15 119 rfl
            have q120 : f.tmps.getD 120 undef = .agg (ocells (RZ)) := finO (V := (VM20 a b q c15 c17 N1 a15 a17 RZ)) hall 16 120 rfl
            have q121 : f.tmps.getD 121 undef = .bool false := finO (V := (VM20 a b q c15 c17 N1 a15 a17 RZ)) hall 17 121 rfl
            have q122 : f.tmps.getD 122 undef = .bool false := finO (V := (VM20 a b q c15 c17 N1 a15 a17 RZ)) hall 18 122 rfl
            have q123 : f.tmps.getD 123 undef = .bool false := finO (V := (VM20 a b q c15 c17 N1 a15 a17 RZ)) hall 19 123 rfl
            have q124 : f.tmps.getD 124 undef = .pointer (some ⟨a, 0, none⟩) := finO (V := (VM20 a b q c15 c17 N1 a15 a17 RZ)) hall 20 124 rfl
            have q125 : f.tmps.getD 125 undef = .int .u64 (N1 : Int) := finO (V := (VM20 a b q c15 c17 N1 a15 a17 RZ)) hall 21 125 rfl
            have q126 : f.tmps.getD 126 undef = .pointer (some ⟨b, 0, none⟩) := finO (V := (VM20 a b q c15 c17 N1 a15 a17 RZ)) hall 22 126 rfl
            have q127 : f.tmps.getD 127 undef = .int .u64 (N1 : Int) := finO (V := (VM20 a b q c15 c17 N1 a15 a17 RZ)) hall 23 127 rfl
            have q128 : f.tmps.getD 128 undef = .bool false := finO (V := (VM20 a b q c15 c17 N1 a15 a17 RZ)) hall 24 128 rfl
            have q129 : f.tmps.getD 129 undef = .bool false := finO (V := (VM20 a b q c15 c17 N1 a15 a17 RZ)) hall 25 129 rfl
            obtain rfl := frame_eq hsame [(104, .nilIface), (105, .bool false), (106, .bool false), (107, .nilIface), (108, .bool false), (109, .bool false), (110, .bool false), (111, .slice a15 q c15), (112, .slice a17 q c17), (113, .bool true), (114, .bool false), (115, .bool false), (116, .bool false), (117, .pointer (some ⟨a, 0, none⟩)), (118, .agg (ocells (RZ))), (119, .pointer (some ⟨b, 0, none⟩)), (120, .agg (ocells (RZ))), (121, .bool false), (122, .bool false), (123, .bool false), (124, .pointer (some ⟨a, 0, none⟩)), (125, .int .u64 (N1 : Int)), (126, .pointer (some ⟨b, 0, none⟩)), (127, .int .u64 (N1 : Int)), (128, .bool false), (129, .bool false)] (by kernel_rfl) ⟨q104, q105, q106, q107, q108, q109, q110, q111, q112, q113, q114, q115, q116, q117, q118, q119, q120, q121, q122, q123, q124, q125, q126, q127, q128, q129, trivial⟩
            clear hall hsame q104 q105 q106 q107 q108 q109 q110 q111 q112 q113 q114 q115 q116 q117 q118 q119 q120 q121 q122 q123 q124 q125 q126 q127 q128 q129
            simp only [List.foldl, List.setIfInBounds_toArray, List.set_cons_succ, List.set_cons_zero]
            have hb := hsn.below (B := u2.heap.size) (fun _ _ => rfl) (Nat.le_refl _)
            have T7 := Bx.mk (T6.out.below hb); have W3 := Bx.mk (W2.out.trans (hb.mono W2.out.size))
            clear hb hsn CRa CRb CSa CSb T6
            go_wp2_with fail
            go_roundw
            case rel => exact ⟨j + 1, lz, sa2, sb2, TL.out, by have := TL.out; go_num, by rw [← Nat.add_assoc, ← HN1.out]; exact T7.out, LZ.out, W3.out⟩
            case measure => have := TL.out; simp [intOf]; omega
          · obtain rfl : j = l2 := by omega
            clear hj hlt
            obtain ⟨m2, hm2⟩ : ∃ m2, m2 = la.length := ⟨_, rfl⟩
            have LM2 := Bx.mk hm2; have M264 := Bx.mk (show m2 ≤ 64 by rw [hm2, LJ.out]; exact pcnt_le _)
            clear hm2
            have CHa : Bx (∀ u, Below wr.heap.size wr u → Calls Tryd.prog 13 #[.pointer (some ⟨a, 0, none⟩)] u fun e w' => ∃ v, e = .returned v ∧ (w'.ownsRow 0 33 32 v m2 (hcells la) ∧ ∀ k, v.ownBlock = some k → u.heap.size ≤ k) ∧ Below u.heap.size u w') := ⟨fun u hu => bhss_any _ u a _ _ _ m2 LM2.out (T0.out.A.below hu) (by have := M264.out; omega) _ (Nat.zero_le _)⟩
            have CHb : Bx (∀ u, Below wr.heap.size wr u → Calls Tryd.prog 13 #[.pointer (some ⟨b, 0, none⟩)] u fun e w' => ∃ v, e = .returned v ∧ (w'.ownsRow 0 33 32 v m2 (hcells la) ∧ ∀ k, v.ownBlock = some k → u.heap.size ≤ k) ∧ Below u.heap.size u w') := ⟨fun u hu => bhss_any _ u b _ _ _ m2 LM2.out (T0.out.B.below hu) (by have := M264.out; omega) _ (Nat.zero_le _)⟩
            have CR : Bx (∀ u, Below wr.heap.size wr u → Calls Tryd.prog 14 #[.pointer (some ⟨z, 0, none⟩)] u fun e w' => e = .returned (.agg (ocells R)) ∧ Below u.heap.size u w') := ⟨fun u hu => by
              have c := broot_any _ u z _ _ _ (T0.out.C.below hu) (EMr.out.below hu).hs.tab (by rw [← LM.out]; exact M64.out)
              rwa [← HR.out, hv_agg] at c⟩
            have CS : Bx (∀ u, Below wr.heap.size wr u → Calls Tryd.prog 12 #[.pointer (some ⟨z, 0, none⟩)] u fun e w' => e = .returned (.int .u64 (t : Int)) ∧ Below u.heap.size u w') := ⟨fun u hu => (bsize_any _ u z _ _ _ (T0.out.C.below hu)).mono fun e w' h => ⟨h.1, h.2 ▸ Below.refl _ _⟩⟩
            have XG := Bx.mk T0.out.G; have A32 := Bx.mk T0.out.A.h32
            have U1 := Bx.mk (show IntKind.u64.wrap (t : Int) = (t : Int) by have := M1.out; simp [IntKind.wrap, IntKind.bits, IntKind.signed]; omega)
            go_upto_region 22 with (fail)
            refine wp_region_own8 (n := 149) VM22mk (fun _ => none) (VM22 a b z m2 t c1 g13 ad1 la R) (by kernel_rfl) (by kernel_rfl) rfl (fun _ _ => rfl) (fun j i hj _ => by cases hj) ?_ ?_ ?_
            · exact fun oi oj v own w own' w' hij _ h r => VM22_mono a b z m2 t c1 g13 ad1 la R oi oj v own w own' w' hij h r
            · intro oi o hi f u own hsame hsn hfr hlate hkeep8 hdep
              have hkeep := hkeep8 _ (.inl rfl)
              have hb6 := hsn.below (B := wr.heap.size) (fun _ _ => rfl) (Nat.le_refl _)
              match oi, hi with
              | 0, hi =>
                cases (show some _ = some o from hi)
                have e5 : f.tmps.getD 5 undef = .pointer (some ⟨a, 0, none⟩) := hsame.slot 5 (fun i o h => invB2_not 5 (by kernel_rfl) h)
                clear hdep hsame hi hlate hfr hkeep
                exact .inl ⟨wanted_none rfl, showsO_move hsn rfl _ rfl e5⟩
              | 1, hi =>
                cases (show some _ = some o from hi)
                have e130 : (f.tmps.getD 130 undef) = .pointer (some ⟨a, 0, none⟩) := depO (V := (VM22 a b z m2 t c1 g13 ad1 la R)) hdep 0 130 (by kernel_rfl) (by kernel_rfl)
                clear hdep hsame hi hlate hfr hkeep
                have c := CHa.out u hb6
                exact .inl ⟨wanted_none rfl, showsO_call (R := fun v w' => w'.ownsRow 0 33 32 v m2 (hcells la) ∧ ∀ k, v.ownBlock = some k → u.heap.size ≤ k) hsn rfl 13 #[.pointer (some ⟨a, 0, none⟩)] (by simp only [execOp, Act.eval]; go_simp) c (fun v w' h _ => ⟨h.1, fun k hk => hsn.top k (h.2 k hk)⟩)⟩
              | 2, hi =>
                cases (show some _ = some o from hi)
                have e9 : f.tmps.getD 9 undef = .pointer (some ⟨b, 0, none⟩) := hsame.slot 9 (fun i o h => invB2_not 9 (by kernel_rfl) h)
                clear hdep hsame hi hlate hfr hkeep
                exact .inl ⟨wanted_none rfl, showsO_move hsn rfl _ rfl e9⟩
              | 3, hi =>
                cases (show some _ = some o from hi)
                have e132 : (f.tmps.getD 132 undef) = .pointer (some ⟨b, 0, none⟩) := depO (V := (VM22 a b z m2 t c1 g13 ad1 la R)) hdep 2 132 (by kernel_rfl) (by kernel_rfl)
                clear hdep hsame hi hlate hfr hkeep
                have c := CHb.out u hb6
                exact .inl ⟨wanted_none rfl, showsO_call (R := fun v w' => w'.ownsRow 0 33 32 v m2 (hcells la) ∧ ∀ k, v.ownBlock = some k → u.heap.size ≤ k) hsn rfl 13 #[.pointer (some ⟨b, 0, none⟩)] (by simp only [execOp, Act.eval]; go_simp) c (fun v w' h _ => ⟨h.1, fun k hk => hsn.top k (h.2 k hk)⟩)⟩
              | 4, hi =>
                cases (show some _ = some o from hi)
                have e131 : RowN own u (f.tmps.getD 131 undef) 0 33 32 m2 (hcells la) := depO (V := (VM22 a b z m2 t c1 g13 ad1 la R)) hdep 1 131 (by kernel_rfl) (by kernel_rfl)
                have e133 : RowN own u (f.tmps.getD 133 undef) 0 33 32 m2 (hcells la) := depO (V := (VM22 a b z m2 t c1 g13 ad1 la R)) hdep 3 133 (by kernel_rfl) (by kernel_rfl)
                clear hdep hsame hi hlate hfr hkeep
                obtain ⟨hr1, _⟩ := e131
                obtain ⟨a8, c8, e131, _, _, _⟩ := own_shape hr1
                rw [e131] at hr1
                obtain ⟨hr2, _⟩ := e133
                obtain ⟨a9, c9, e133, _, _, _⟩ := own_shape hr2
                rw [e133] at hr2
                have c := same_any u a8 m2 c8 la a9 m2 c9 la (hss_own hr1 A32.out LM2.out) (hss_own hr2 A32.out LM2.out)
                rw [beq_self_eq_true] at c
                exact .inl ⟨wanted_none rfl, showsO_call1 hsn rfl 16 #[.slice a8 m2 c8, .slice a9 m2 c9] (by simp only [execOp, Act.eval]; go_simp) (c) (fun _ => rfl)⟩
              | 5, hi =>
                cases (show some _ = some o from hi)
                have e134 : (f.tmps.getD 134 undef) = .bool true := depO (V := (VM22 a b z m2 t c1 g13 ad1 la R)) hdep 4 134 (by kernel_rfl) (by kernel_rfl)
                clear hdep hsame hi hlate hfr hkeep
                exact .inl ⟨wanted_none rfl, showsO_move hsn rfl _ rfl e134⟩
              | 6, hi =>
                cases (show some _ = some o from hi)
                have e11 : f.tmps.getD 11 undef = .pointer (some ⟨z, 0, none⟩) := hsame.slot 11 (fun i o h => invB2_not 11 (by kernel_rfl) h)
                have eg : f.tmps.getD 135 undef = .bool true := depO (V := (VM22 a b z m2 t c1 g13 ad1 la R)) hdep 5 135 (by kernel_rfl) (by kernel_rfl)
                clear hdep hsame hi hlate hfr hkeep
                exact .inl ⟨wanted_of 5 rfl eg (by kernel_rfl), showsO_move hsn rfl _ rfl e11⟩
              | 7, hi =>
                cases (show some _ = some o from hi)
                have e136 : (f.tmps.getD 136 undef) = .pointer (some ⟨z, 0, none⟩) := depO (V := (VM22 a b z m2 t c1 g13 ad1 la R)) hdep 6 136 (by kernel_rfl) (by kernel_rfl)
                have eg : f.tmps.getD 135 undef = .bool true := depO (V := (VM22 a b z m2 t c1 g13 ad1 la R)) hdep 5 135 (by kernel_rfl) (by kernel_rfl)
                clear hdep hsame hi hlate hfr hkeep
                have c := CR.out u hb6
                exact .inl ⟨wanted_of 5 rfl eg (by kernel_rfl), showsO_call1 hsn rfl 14 #[.pointer (some ⟨z, 0, none⟩)] (by simp only [execOp, Act.eval]; go_simp) (c) (fun _ => rfl)⟩
              | 8, hi =>
                cases (show some _ = some o from hi)
                have e13 : f.tmps.getD 13 undef = .pointer (some ⟨g13, 0, none⟩) := hsame.slot 13 (fun i o h => invB2_not 13 (by kernel_rfl) h)
                have eg : f.tmps.getD 135 undef = .bool true := depO (V := (VM22 a b z m2 t c1 g13 ad1 la R)) hdep 5 135 (by kernel_rfl) (by kernel_rfl)
                clear hdep hsame hi hlate hfr hkeep
                exact .inl ⟨wanted_of 5 rfl eg (by kernel_rfl), showsO_row hsn rfl 33 (.tmp 13) rfl g13 e13 (ocells (R)) ((hb6.block _ (Array.getElem?_eq_some_iff.1 XG.out).1).trans XG.out) underH rfl (hszL R32.out) rfl⟩
              | 9, hi =>
                cases (show some _ = some o from hi)
                have e137 : (f.tmps.getD 137 undef) = .agg (ocells (R)) := depO (V := (VM22 a b z m2 t c1 g13 ad1 la R)) hdep 7 137 (by kernel_rfl) (by kernel_rfl)
                have e138 : (f.tmps.getD 138 undef) = .agg (ocells (R)) := depO (V := (VM22 a b z m2 t c1 g13 ad1 la R)) hdep 8 138 (by kernel_rfl) (by kernel_rfl)
                have eg : f.tmps.getD 135 undef = .bool true := depO (V := (VM22 a b z m2 t c1 g13 ad1 la R)) hdep 5 135 (by kernel_rfl) (by kernel_rfl)
                clear hdep hsame hi hlate hfr hkeep
                have q := fun u => hv_eq u (R) (R) R32.out R32.out
                simp only [hv_agg, beq_self_eq_true] at q
                exact .inl ⟨wanted_of 5 rfl eg (by kernel_rfl), showsO_pure hsn rfl (.bool true) (by simp only [execOp, Act.eval]; go_simp) rfl⟩
              | 10, hi =>
                cases (show some _ = some o from hi)
                have e135 : (f.tmps.getD 135 undef) = .bool true := depO (V := (VM22 a b z m2 t c1 g13 ad1 la R)) hdep 5 135 (by kernel_rfl) (by kernel_rfl)
                have e139 : (f.tmps.getD 139 undef) = .bool true := depO (V := (VM22 a b z m2 t c1 g13 ad1 la R)) hdep 9 139 (by kernel_rfl) (by kernel_rfl)
                clear hdep hsame hi hlate hfr hkeep
                exact .inl ⟨wanted_none rfl, showsO_pure hsn rfl (.bool true) (by simp only [execOp, Act.eval]; go_simp) rfl⟩
              | 11, hi =>
                cases (show some _ = some o from hi)
                have e140 : (f.tmps.getD 140 undef) = .bool true := depO (V := (VM22 a b z m2 t c1 g13 ad1 la R)) hdep 10 140 (by kernel_rfl) (by kernel_rfl)
                clear hdep hsame hi hlate hfr hkeep
                exact .inl ⟨wanted_none rfl, showsO_move hsn rfl _ rfl e140⟩
              | 12, hi =>
                cases (show some _ = some o from hi)
                have e11 : f.tmps.getD 11 undef = .pointer (some ⟨z, 0, none⟩) := hsame.slot 11 (fun i o h => invB2_not 11 (by kernel_rfl) h)
                have eg : f.tmps.getD 141 undef = .bool true := depO (V := (VM22 a b z m2 t c1 g13 ad1 la R)) hdep 11 141 (by kernel_rfl) (by kernel_rfl)
                clear hdep hsame hi hlate hfr hkeep
                exact .inl ⟨wanted_of 11 rfl eg (by kernel_rfl), showsO_move hsn rfl _ rfl e11⟩
              | 13, hi =>
                cases (show some _ = some o from hi)
                have e142 : (f.tmps.getD 142 undef) = .pointer (some ⟨z, 0, none⟩) := depO (V := (VM22 a b z m2 t c1 g13 ad1 la R)) hdep 12 142 (by kernel_rfl) (by kernel_rfl)
                have eg : f.tmps.getD 141 undef = .bool true := depO (V := (VM22 a b z m2 t c1 g13 ad1 la R)) hdep 11 141 (by kernel_rfl) (by kernel_rfl)
                clear hdep hsame hi hlate hfr hkeep
                have c := CS.out u hb6
                exact .inl ⟨wanted_of 11 rfl eg (by kernel_rfl), showsO_call1 hsn rfl 12 #[.pointer (some ⟨z, 0, none⟩)] (by simp only [execOp, Act.eval]; go_simp) (c) (fun _ => rfl)⟩
              | 14, hi =>
                cases (show some _ = some o from hi)
                have e0 : f.tmps.getD 0 undef = .slice ad1 t c1 := hsame.slot 0 (fun i o h => invB2_not 0 (by kernel_rfl) h)
                have eg : f.tmps.getD 141 undef = .bool true := depO (V := (VM22 a b z m2 t c1 g13 ad1 la R)) hdep 11 141 (by kernel_rfl) (by kernel_rfl)
                clear hdep hsame hi hlate hfr hkeep
                exact .inl ⟨wanted_of 11 rfl eg (by kernel_rfl), showsO_move hsn rfl _ rfl e0⟩
              | 15, hi =>
                cases (show some _ = some o from hi)
                have e144 : (f.tmps.getD 144 undef) = .slice ad1 t c1 := depO (V := (VM22 a b z m2 t c1 g13 ad1 la R)) hdep 14 144 (by kernel_rfl) (by kernel_rfl)
                have eg : f.tmps.getD 141 undef = .bool true := depO (V := (VM22 a b z m2 t c1 g13 ad1 la R)) hdep 11 141 (by kernel_rfl) (by kernel_rfl)
                clear hdep hsame hi hlate hfr hkeep
                exact .inl ⟨wanted_of 11 rfl eg (by kernel_rfl), showsO_pure hsn rfl (.int .i64 (t : Int)) (by simp only [execOp, Act.eval]; go_simp) rfl⟩
              | 16, hi =>
                cases (show some _ = some o from hi)
                have e145 : (f.tmps.getD 145 undef) = .int .i64 (t : Int) := depO (V := (VM22 a b z m2 t c1 g13 ad1 la R)) hdep 15 145 (by kernel_rfl) (by kernel_rfl)
                have eg : f.tmps.getD 141 undef = .bool true := depO (V := (VM22 a b z m2 t c1 g13 ad1 la R)) hdep 11 141 (by kernel_rfl) (by kernel_rfl)
                clear hdep hsame hi hlate hfr hkeep
                have d1 := U1.out
                exact .inl ⟨wanted_of 11 rfl eg (by kernel_rfl), showsO_pure hsn rfl (.int .u64 (t : Int)) (by simp only [execOp, Act.eval]; go_simp) rfl⟩
              | 17, hi =>
                cases (show some _ = some o from hi)
                have e143 : (f.tmps.getD 143 undef) = .int .u64 (t : Int) := depO (V := (VM22 a b z m2 t c1 g13 ad1 la R)) hdep 13 143 (by kernel_rfl) (by kernel_rfl)
                have e146 : (f.tmps.getD 146 undef) = .int .u64 (t : Int) := depO (V := (VM22 a b z m2 t c1 g13 ad1 la R)) hdep 16 146 (by kernel_rfl) (by kernel_rfl)
                have eg : f.tmps.getD 141 undef = .bool true := depO (V := (VM22 a b z m2 t c1 g13 ad1 la R)) hdep 11 141 (by kernel_rfl) (by kernel_rfl)
                clear hdep hsame hi hlate hfr hkeep
                exact .inl ⟨wanted_of 11 rfl eg (by kernel_rfl), showsO_pure hsn rfl (.bool true) (by simp only [execOp, Act.eval]; go_simp) rfl⟩
              | 18, hi =>
                cases (show some _ = some o from hi)
                have e141 : (f.tmps.getD 141 undef) = .bool true := depO (V := (VM22 a b z m2 t c1 g13 ad1 la R)) hdep 11 141 (by kernel_rfl) (by kernel_rfl)
                have e147 : (f.tmps.getD 147 undef) = .bool true := depO (V := (VM22 a b z m2 t c1 g13 ad1 la R)) hdep 17 147 (by kernel_rfl) (by kernel_rfl)
                clear hdep hsame hi hlate hfr hkeep
                exact .inl ⟨wanted_none rfl, showsO_pure hsn rfl (.bool true) (by simp only [execOp, Act.eval]; go_simp) rfl⟩
              | 19, hi =>
                cases (show some _ = some o from hi)
                have e148 : (f.tmps.getD 148 undef) = .bool true := depO (V := (VM22 a b z m2 t c1 g13 ad1 la R)) hdep 18 148 (by kernel_rfl) (by kernel_rfl)
                clear hdep hsame hi hlate hfr hkeep
                exact .inl ⟨wanted_none rfl, showsO_assign hsn rfl _ rfl e148⟩
              | n + 20, hi => exact absurd hi (by simp)
            intro f u3 own hsame hsn hall
            have q130 : f.tmps.getD 130 undef = .pointer (some ⟨a, 0, none⟩) := finO (V := (VM22 a b z m2 t c1 g13 ad1 la R)) hall 0 130 rfl
            have m131 := finO (V := (VM22 a b z m2 t c1 g13 ad1 la R)) hall 1 131 rfl
            obtain ⟨r131, q131⟩ : ∃ r, f.tmps.getD 131 undef = r := ⟨_, rfl⟩
            rw [q131] at m131
            have q132 : f.tmps.getD 132 undef = .pointer (some ⟨b, 0, none⟩) := finO (V := (VM22 a b z m2 t c1 g13 ad1 la R)) hall 2 132 rfl
            have m133 := finO (V := (VM22 a b z m2 t c1 g13 ad1 la R)) hall 3 133 rfl
            obtain ⟨r133, q133⟩ : ∃ r, f.tmps.getD 133 undef = r := ⟨_, rfl⟩
            rw [q133] at m133
            have q134 : f.tmps.getD 134 undef = .bool true := finO (V := (VM22 a b z m2 t c1 g13 ad1 la R)) hall 4 134 rfl
            have q135 : f.tmps.getD 135 undef = .bool true := finO (V := (VM22 a b z m2 t c1 g13 ad1 la R)) hall 5 135 rfl
            have q136 : f.tmps.getD 136 undef = .pointer (some ⟨z, 0, none⟩) := finO (V := (VM22 a b z m2 t c1 g13 ad1 la R)) hall 6 136 rfl
            have q137 : f.tmps.getD 137 undef = .agg (ocells (R)) := finO (V := (VM22 a b z m2 t c1 g13 ad1 la R)) hall 7 137 rfl
            have q138 : f.tmps.getD 138 undef = .agg (ocells (R)) := finO (V := (VM22 a b z m2 t c1 g13 ad1 la R)) hall 8 138 rfl
            have q139 : f.tmps.getD 139 undef = .bool true := finO (V := (VM22 a b z m2 t c1 g13 ad1 la R)) hall 9 139 rfl
            have q140 : f.tmps.getD 140 undef = .bool true := finO (V := (VM22 a b z m2 t c1 g13 ad1 la R)) hall 10 140 rfl
            have q141 : f.tmps.getD 141 undef = .bool true := finO (V := (VM22 a b z m2 t c1 g13 ad1 la R)) hall 11 141 rfl
            have q142 : f.tmps.getD 142 undef = .pointer (some ⟨z, 0, none⟩) := finO (V := (VM22 a b z m2 t c1 g13 ad1 la R)) hall 12 142 rfl
            have q143 : f.tmps.getD 143 undef = .int .u64 (t : Int) := finO (V := (VM22 a b z m2 t c1 g13 ad1 la R)) hall 13 143 rfl
            have q144 : f.tmps.getD 144 undef = .slice ad1 t c1 := finO (V := (VM22 a b z m2 t c1 g13 ad1 la R)) hall 14 144 rfl
            have q145 : f.tmps.getD 145 undef = .int .i64 (t : Int) := finO (V := (VM22 a b z m2 t c1 g13 ad1 la R)) hall 15 145 rfl
            have q146 : f.tmps.getD 146 undef = .int .u64 (t : Int) := finO (V := (VM22 a b z m2 t c1 g13 ad1 la R)) hall 16 146 rfl
            have q147 : f.tmps.getD 147 undef = .bool true := finO (V := (VM22 a b z m2 t c1 g13 ad1 la R)) hall 17 147 rfl
            have q148 : f.tmps.getD 148 undef = .bool true := finO (V := (VM22 a b z m2 t c1 g13 ad1 la R)) hall 18 148 rfl
            have q4 : f.tmps.getD 4 undef = .bool true := finO (V := (VM22 a b z m2 t c1 g13 ad1 la R)) hall 19 4 rfl
            obtain rfl := frame_eq hsame [(130, .pointer (some ⟨a, 0, none⟩)), (131, r131), (132, .pointer (some ⟨b, 0, none⟩)), (133, r133), (134, .bool true), (135, .bool true), (136, .pointer (some ⟨z, 0, none⟩)), (137, .agg (ocells (R))), (138, .agg (ocells (R))), (139, .bool true), (140, .bool true), (141, .bool true), (142, .pointer (some ⟨z, 0, none⟩)), (143, .int .u64 (t : Int)), (144, .slice ad1 t c1), (145, .int .i64 (t : Int)), (146, .int .u64 (t : Int)), (147, .bool true), (148, .bool true), (4, .bool true)] (by kernel_rfl) ⟨q130, q131, q132, q133, q134, q135, q136, q137, q138, q139, q140, q141, q142, q143, q144, q145, q146, q147, q148, q4, trivial⟩
            clear hall hsame q130 q131 q132 q133 q134 q135 q136 q137 q138 q139 q140 q141 q142 q143 q144 q145 q146 q147 q148 q4
            simp only [List.foldl, List.setIfInBounds_toArray, List.set_cons_succ, List.set_cons_zero]
            have hb := hsn.below (B := wr.heap.size) (fun _ _ => rfl) (Nat.le_refl _)
            go_wp2_with fail
            go_ret
            exact ⟨rfl, Kw4.out.trans ((W0.out.trans (hb.mono W0.out.size)).mono Kw4.out.size)⟩
end Go.Proofs.YtbhcaalelfaceaaDoor
