/- The document's cache of chapter 13: Get, Put, Drop. -/
import Derived.Test.YtdepmjgibenejaaGreatDoorRcB
import Derived.Test.YtdepmjgibenejaaGreatDoorInvU
namespace Go.Proofs.YtdepmjgibenejaaGreatDoor
set_option maxRecDepth 100000
open Go.RowKit
/-- the list is another one, in new memory or a part of what it was -/
def RfT (base : Nat) (w w' : World) (r most : Nat) (es : List (Int × Int)) : Prop := ∃ L', RfM base w' r most es L' ∧ Keep (fun k => k = r) w w' ∧ ∀ k, L'.ownBlock = some k → w.heap.size ≤ k
def RGetR (base : Nat) (w : World) (r most : Nat) (es : List (Int × Int)) (k : Int) (e : Ending) (w' : World) : Prop :=
  (k ∉ es.map (·.1) ∧ e = .returned (.tuple #[.int .i64 0, .bool false]) ∧ Below w.heap.size w w') ∨
  (∃ t, ∃ (ht : t < es.length), es[t].1 = k ∧ e = .returned (.tuple #[.int .i64 es[t].2, .bool true]) ∧ RfT base w w' r most ((k, es[t].2) :: es.eraseIdx t))
def RDropR (base : Nat) (w : World) (r most : Nat) (es : List (Int × Int)) (k : Int) (e : Ending) (w' : World) : Prop :=
  (k ∉ es.map (·.1) ∧ e = .returned (.bool false) ∧ Below w.heap.size w w') ∨
  (∃ t, ∃ (ht : t < es.length), es[t].1 = k ∧ e = .returned (.bool true) ∧ RfT base w w' r most (es.eraseIdx t))
def RPutR (base : Nat) (w : World) (r most : Nat) (es : List (Int × Int)) (k x : Int) (e : Ending) (w' : World) : Prop :=
  (∃ t, ∃ (ht : t < es.length), es[t].1 = k ∧ e = .returned (.tuple #[.int .i64 0, .bool false]) ∧ RfT base w w' r most ((k, x) :: es.eraseIdx t)) ∨
  (k ∉ es.map (·.1) ∧ most = 0 ∧ e = .returned (.tuple #[.int .i64 k, .bool true]) ∧ Below w.heap.size w w') ∨
  (k ∉ es.map (·.1) ∧ es.length < most ∧ e = .returned (.tuple #[.int .i64 0, .bool false]) ∧ RfT base w w' r most ((k, x) :: es)) ∨
  (k ∉ es.map (·.1) ∧ ∃ es0 y, es = es0 ++ [y] ∧ es.length = most ∧ e = .returned (.tuple #[.int .i64 y.1, .bool true]) ∧ RfT base w w' r most ((k, x) :: es0))
theorem cells2 {w : World} {n : Nat} {x y : Value} {T : TypeId} (h : w.heap[n]? = some (.cells #[x, y] T (0, 0))) : w.cell? ⟨n, 0, none⟩ = some x ∧ w.cell? ⟨n, 1, none⟩ = some y := ⟨er_cellAt h 0 _ rfl, er_cellAt h 1 _ rfl⟩
set_option maxHeartbeats 1600000 in
theorem rget13_any (base : Nat) (w : World) (rc most : Nat) (es : List (Int × Int)) (L : Value) (h : RfM base w rc most es L) (hbase : base ≤ w.heap.size) (hlen : es.length ≤ 1024) (k : Int) : Calls Tryz.prog 10 #[.pointer (some ⟨rc, 0, none⟩), .int .i64 k] w (RGetR base w rc most es k) := by
  have hlen : es.length ≤ 1024 := hlen
  have TK := Bx.mk (take13_any base w rc most es L h hbase (by omega) k)
  have HH := Bx.mk h; have HBS := Bx.mk hbase; have HLN := Bx.mk hlen
  have RLT := Bx.mk (Array.getElem?_eq_some_iff.1 h.hb).1
  clear h hbase hlen
  go_enter Tryz.func10, Tryz.ntmps10
  go_wp2_with fail
  refine TK.out.mono ?_
  rintro e w1 hT
  rcases hT with ⟨hx, rfl, hb⟩ | ⟨t, ht, hke, rfl, L1, hM, hkp, hf⟩
  · have B1 := Bx.mk hb; have HX := Bx.mk hx
    clear hb hx
    go_wp2_with fail
    go_ret2
    exact .inl ⟨HX.out, rfl, er_al B1.out _⟩
  · have x1 := heap_alloc_new w1 (.cells #[.int .i64 k, .int .i64 (es[t]'ht).2] 84)
    have b1 := er_al (Below.refl w1.heap.size w1) (.cells #[.int .i64 k, .int .i64 (es[t]'ht).2] 84)
    obtain ⟨vv, hvv⟩ : ∃ vv, vv = (es[t]'ht).2 := ⟨_, rfl⟩
    rw [← hvv] at x1 b1 ⊢
    have TE := Bx.mk ht; have HKE : Bx ((es[t]'TE.out).1 = k) := ⟨hke⟩; have HVV : Bx (vv = (es[t]'TE.out).2) := ⟨hvv⟩; have HM := Bx.mk hM; have HK := Bx.mk hkp; have HF := Bx.mk hf
    clear ht hke hvv hM hkp hf
    go_upto_region 2 with (fail)
    change Code.wp _ _ _ _ (w1.alloc (.cells #[.int .i64 k, .int .i64 vv] 84))
    generalize w1.alloc (.cells #[.int .i64 k, .int .i64 vv] 84) = W1 at x1 b1 ⊢
    obtain ⟨N, hN⟩ : ∃ N, N = w1.heap.size := ⟨_, rfl⟩
    rw [← hN] at x1 ⊢
    have M1 := Bx.mk (HM.out.below b1); have X1 := Bx.mk x1; have B1 := Bx.mk b1; have HN := Bx.mk hN
    obtain ⟨d0, d1⟩ := cells2 x1
    have K1 := Bx.mk (HK.out.trans (Keep.of_below b1 (fun k => k = rc)) (fun _ _ h => h))
    have F1 := Bx.mk (fun k (hk : L1.ownBlock = some k) => HF.out k hk)
    have SZ := Bx.mk (show w.heap.size ≤ W1.heap.size from K1.out.size)
    have LE := Bx.mk (show (es.eraseIdx t).length ≤ 2000 by have := HLN.out; have := List.length_eraseIdx_le (l := es) (i := t); omega)
    clear x1 b1 hN
    go_wp2_with fail
    refine (first13_any base W1 rc most (es.eraseIdx t) _ M1.out (Nat.le_trans HBS.out SZ.out) (LE.out) k vv).mono ?_
    rintro e w2 ⟨rfl, L2, hM2, hk2, hf2⟩
    have c1 := (cells2 ((hk2.block N (Array.getElem?_eq_some_iff.1 X1.out).1 (by have := RLT.out; have := HN.out; have := HK.out.size; omega)).trans X1.out)).2
    have FIN : Bx (RGetR base w rc most es k (.returned (.tuple #[.int .i64 vv, .bool true])) w2) := ⟨.inr ⟨t, TE.out, HKE.out, by rw [HVV.out], L2, by rw [← HVV.out]; exact hM2, K1.out.trans hk2 (fun _ _ h => h), fun j hj => Nat.le_trans SZ.out (hf2 j hj)⟩⟩
    clear hM2 hk2 hf2 d0 d1
    go_wp2_with fail
    go_ret2
    exact FIN.out
set_option maxHeartbeats 1600000 in
theorem rdrop13_any (base : Nat) (w : World) (rc most : Nat) (es : List (Int × Int)) (L : Value) (h : RfM base w rc most es L) (hbase : base ≤ w.heap.size) (hlen : es.length ≤ 1024) (k : Int) : Calls Tryz.prog 14 #[.pointer (some ⟨rc, 0, none⟩), .int .i64 k] w (RDropR base w rc most es k) := by
  have TK := Bx.mk (take13_any base w rc most es L h hbase (by omega) k)
  have HH := Bx.mk h; have HBS := Bx.mk hbase; have HLN := Bx.mk hlen
  have RLT := Bx.mk (Array.getElem?_eq_some_iff.1 h.hb).1
  clear h hbase hlen
  go_enter Tryz.func14, Tryz.ntmps14
  go_wp2_with fail
  refine TK.out.mono ?_
  rintro e w1 hT
  rcases hT with ⟨hx, rfl, hb⟩ | ⟨t, ht, hke, rfl, L1, hM, hkp, hf⟩
  · have B1 := Bx.mk hb; have HX := Bx.mk hx
    clear hb hx
    go_wp2_with fail
    go_ret
    exact .inl ⟨HX.out, rfl, er_al B1.out _⟩
  · have x1 := heap_alloc_new w1 (.cells #[.int .i64 k, .int .i64 (es[t]'ht).2] 84)
    have b1 := er_al (Below.refl w1.heap.size w1) (.cells #[.int .i64 k, .int .i64 (es[t]'ht).2] 84)
    obtain ⟨vv, hvv⟩ : ∃ vv, vv = (es[t]'ht).2 := ⟨_, rfl⟩
    rw [← hvv] at x1 b1 ⊢
    have TE := Bx.mk ht; have HKE : Bx ((es[t]'TE.out).1 = k) := ⟨hke⟩; have HVV : Bx (vv = (es[t]'TE.out).2) := ⟨hvv⟩; have HM := Bx.mk hM; have HK := Bx.mk hkp; have HF := Bx.mk hf
    clear ht hke hvv hM hkp hf
    go_upto_region 2 with (fail)
    change Code.wp _ _ _ _ (w1.alloc (.cells #[.int .i64 k, .int .i64 vv] 84))
    generalize w1.alloc (.cells #[.int .i64 k, .int .i64 vv] 84) = W1 at x1 b1 ⊢
    obtain ⟨N, hN⟩ : ∃ N, N = w1.heap.size := ⟨_, rfl⟩
    rw [← hN] at x1 ⊢
    have M1 := Bx.mk (HM.out.below b1); have X1 := Bx.mk x1; have B1 := Bx.mk b1; have HN := Bx.mk hN
    obtain ⟨d0, d1⟩ := cells2 x1
    have K1 := Bx.mk (HK.out.trans (Keep.of_below b1 (fun k => k = rc)) (fun _ _ h => h))
    have F1 := Bx.mk (fun k (hk : L1.ownBlock = some k) => HF.out k hk)
    have SZ := Bx.mk (show w.heap.size ≤ W1.heap.size from K1.out.size)
    have LE := Bx.mk (show (es.eraseIdx t).length ≤ 2000 by have := HLN.out; have := List.length_eraseIdx_le (l := es) (i := t); omega)
    clear x1 b1 hN
    have FIN : Bx (RDropR base w rc most es k (.returned (.bool true)) W1) := ⟨.inr ⟨t, TE.out, HKE.out, rfl, L1, M1.out, K1.out, F1.out⟩⟩
    go_wp2_with fail
    go_ret
    exact FIN.out
def VPa (_rc : Nat)  (oi : Nat) (v : Value) (_own : Nat → Option Nat) (_w : World) : Prop :=
  match oi with
  | 0 => v = .bool true
  | 1 => v = .bool false
  | 2 => v = .bool false
  | 3 => v = undef
  | 4 => v = undef
  | 5 => v = undef
  | 6 => v = undef
  | 7 => v = undef
  | 8 => v = undef
  | 9 => v = undef
  | 10 => v = undef
  | 11 => v = undef
  | 12 => v = undef
  | 13 => v = .bool false
  | _ => True
def VPamk : Nat → Option Nat := fun _ => none
theorem VPa_mono (rc : Nat)  (oi oj : Nat) (v : Value) (own : Nat → Option Nat) (w : World) (own' : Nat → Option Nat) (w' : World) (hij : oi ≠ oj)   (h : VPa rc oj v own w) (_r : Rel VPamk oi own w own' w') : VPa rc oj v own' w' := by
  unfold VPa at h ⊢
  split at h
  · exact h
  · exact h
  · exact h
  · exact h
  · exact h
  · exact h
  · exact h
  · exact h
  · exact h
  · exact h
  · exact h
  · exact h
  · exact h
  · exact h
  · trivial

def VPb (rc n most c : Nat) (aa : Option Addr) (oi : Nat) (v : Value) (_own : Nat → Option Nat) (_w : World) : Prop :=
  match oi with
  | 0 => v = .bool false
  | 1 => v = .bool true
  | 2 => v = .bool true
  | 3 => v = .pointer (some ⟨rc, 0, none⟩)
  | 4 => v = .pointer (some ⟨rc, 0, none⟩)
  | 5 => v = .pointer (some ⟨rc, 1, none⟩)
  | 6 => v = .slice aa n c
  | 7 => v = .int .i64 (n : Int)
  | 8 => v = .pointer (some ⟨rc, 0, none⟩)
  | 9 => v = .pointer (some ⟨rc, 0, none⟩)
  | 10 => v = .pointer (some ⟨rc, 0, none⟩)
  | 11 => v = .int .i64 (most : Int)
  | 12 => v = .bool false
  | 13 => v = .bool false
  | _ => True
def VPbmk : Nat → Option Nat := fun _ => none
theorem VPb_mono (rc n most c : Nat) (aa : Option Addr) (oi oj : Nat) (v : Value) (own : Nat → Option Nat) (w : World) (own' : Nat → Option Nat) (w' : World) (hij : oi ≠ oj)   (h : VPb rc n most c aa oj v own w) (_r : Rel VPbmk oi own w own' w') : VPb rc n most c aa oj v own' w' := by
  unfold VPb at h ⊢
  split at h
  · exact h
  · exact h
  · exact h
  · exact h
  · exact h
  · exact h
  · exact h
  · exact h
  · exact h
  · exact h
  · exact h
  · exact h
  · exact h
  · exact h
  · trivial

def VPc (rc n most c : Nat) (aa : Option Addr) (oi : Nat) (v : Value) (_own : Nat → Option Nat) (_w : World) : Prop :=
  match oi with
  | 0 => v = .bool false
  | 1 => v = .bool true
  | 2 => v = .bool true
  | 3 => v = .pointer (some ⟨rc, 0, none⟩)
  | 4 => v = .pointer (some ⟨rc, 0, none⟩)
  | 5 => v = .pointer (some ⟨rc, 1, none⟩)
  | 6 => v = .slice aa n c
  | 7 => v = .int .i64 (n : Int)
  | 8 => v = .pointer (some ⟨rc, 0, none⟩)
  | 9 => v = .pointer (some ⟨rc, 0, none⟩)
  | 10 => v = .pointer (some ⟨rc, 0, none⟩)
  | 11 => v = .int .i64 (most : Int)
  | 12 => v = .bool true
  | 13 => v = .bool true
  | _ => True
def VPcmk : Nat → Option Nat := fun _ => none
theorem VPc_mono (rc n most c : Nat) (aa : Option Addr) (oi oj : Nat) (v : Value) (own : Nat → Option Nat) (w : World) (own' : Nat → Option Nat) (w' : World) (hij : oi ≠ oj)   (h : VPc rc n most c aa oj v own w) (_r : Rel VPcmk oi own w own' w') : VPc rc n most c aa oj v own' w' := by
  unfold VPc at h ⊢
  split at h
  · exact h
  · exact h
  · exact h
  · exact h
  · exact h
  · exact h
  · exact h
  · exact h
  · exact h
  · exact h
  · exact h
  · exact h
  · exact h
  · exact h
  · trivial

def VPd (rc m _most c g : Nat) (yk : Int) (oi : Nat) (v : Value) (_own : Nat → Option Nat) (_w : World) : Prop :=
  match oi with
  | 0 => v = .pointer (some ⟨rc, 0, none⟩)
  | 1 => v = .pointer (some ⟨rc, 0, none⟩)
  | 2 => v = .pointer (some ⟨rc, 1, none⟩)
  | 3 => v = .slice (some ⟨g, 0, none⟩) (m + 1) c
  | 4 => v = .pointer (some ⟨rc, 0, none⟩)
  | 5 => v = .pointer (some ⟨rc, 0, none⟩)
  | 6 => v = .pointer (some ⟨rc, 1, none⟩)
  | 7 => v = .slice (some ⟨g, 0, none⟩) (m + 1) c
  | 8 => v = .int .i64 ((m + 1 : Nat) : Int)
  | 9 => v = .int .i64 (m : Int)
  | 10 => v = .pointer (some ⟨g, m * 2, none⟩)
  | 11 => v = .pointer (some ⟨g, m * 2, none⟩)
  | 12 => v = .int .i64 yk
  | 13 => v = .int .i64 yk
  | _ => True
def VPdmk : Nat → Option Nat := fun _ => none
theorem VPd_mono (rc m most c g : Nat) (yk : Int) (oi oj : Nat) (v : Value) (own : Nat → Option Nat) (w : World) (own' : Nat → Option Nat) (w' : World) (hij : oi ≠ oj)   (h : VPd rc m most c g yk oj v own w) (_r : Rel VPdmk oi own w own' w') : VPd rc m most c g yk oj v own' w' := by
  unfold VPd at h ⊢
  split at h
  · exact h
  · exact h
  · exact h
  · exact h
  · exact h
  · exact h
  · exact h
  · exact h
  · exact h
  · exact h
  · exact h
  · exact h
  · exact h
  · exact h
  · trivial

def VPe (rc m most c g : Nat) (oi : Nat) (v : Value) (own : Nat → Option Nat) (w : World) : Prop :=
  match oi with
  | 0 => v = .pointer (some ⟨rc, 0, none⟩)
  | 1 => v = .pointer (some ⟨rc, 0, none⟩)
  | 2 => v = .pointer (some ⟨rc, 0, none⟩)
  | 3 => v = .pointer (some ⟨rc, 1, none⟩)
  | 4 => v = .slice (some ⟨g, 0, none⟩) (m + 1) c
  | 5 => v = .pointer (some ⟨rc, 0, none⟩)
  | 6 => v = .pointer (some ⟨rc, 0, none⟩)
  | 7 => v = .pointer (some ⟨rc, 1, none⟩)
  | 8 => v = .slice (some ⟨g, 0, none⟩) (m + 1) c
  | 9 => v = .int .i64 ((m + 1 : Nat) : Int)
  | 10 => v = .int .i64 (m : Int)
  | 11 => v = .slice (some ⟨g, 0, none⟩) m c
  | 12 => v = .pointer (some ⟨rc, 0, none⟩)
  | 13 => v = .pointer (some ⟨rc, 1, none⟩)
  | 14 => OutV own w (rc) 14 51 #[.int .i64 (most : Int), .slice (some ⟨g, 0, none⟩) m c]
  | _ => True
def VPemk : Nat → Option Nat := fun _ => none
theorem VPe_mono (rc m most c g : Nat) (oi oj : Nat) (v : Value) (own : Nat → Option Nat) (w : World) (own' : Nat → Option Nat) (w' : World) (hij : oi ≠ oj)   (h : VPe rc m most c g oj v own w) (r : Rel VPemk oi own w own' w') : VPe rc m most c g oj v own' w' := by
  unfold VPe at h ⊢
  split at h
  · exact h
  · exact h
  · exact h
  · exact h
  · exact h
  · exact h
  · exact h
  · exact h
  · exact h
  · exact h
  · exact h
  · exact h
  · exact h
  · exact h
  · exact h.stable r hij
  · trivial

set_option maxHeartbeats 4000000 in
theorem rput13_any (base : Nat) (w : World) (rc most : Nat) (es : List (Int × Int)) (L : Value) (h : RfM base w rc most es L) (hbase : base ≤ w.heap.size) (hlen : es.length ≤ 1024) (k : Int) (x : Int) (hle : es.length ≤ most) : Calls Tryz.prog 12 #[.pointer (some ⟨rc, 0, none⟩), .int .i64 k, .int .i64 x] w (RPutR base w rc most es k x) := by
  have HLM := Bx.mk hle
  clear hle
  have TK := Bx.mk (take13_any base w rc most es L h hbase (by omega) k)
  have HH := Bx.mk h; have HBS := Bx.mk hbase; have HLN := Bx.mk hlen
  have RLT := Bx.mk (Array.getElem?_eq_some_iff.1 h.hb).1
  clear h hbase hlen
  go_enter Tryz.func12, Tryz.ntmps12
  go_wp2_with fail
  refine TK.out.mono ?_
  rintro e w1 hT
  rcases hT with ⟨hx, rfl, hb⟩ | ⟨t, ht, hke, rfl, L1, hM, hkp, hf⟩
  · have x1 := heap_alloc_new w1 (.cells #[.int .i64 0, .int .i64 0] 84)
    have b1 := er_al (Below.refl w1.heap.size w1) (.cells #[.int .i64 0, .int .i64 0] 84)
    have m1 := (HH.out.below hb).below b1
    have B0 := Bx.mk (hb.trans (b1.mono hb.size)); have HX := Bx.mk hx
    clear hb hx
    go_upto_region 2 with (fail)
    change Code.wp _ _ _ _ (w1.alloc (.cells #[.int .i64 0, .int .i64 0] 84))
    generalize w1.alloc (.cells #[.int .i64 0, .int .i64 0] 84) = W1 at x1 b1 m1 B0 ⊢
    obtain ⟨N, hN⟩ : ∃ N, N = w1.heap.size := ⟨_, rfl⟩
    rw [← hN] at x1 ⊢
    have M1 := Bx.mk m1
    obtain ⟨c0, c1⟩ := cells2 m1.hb
    clear x1 b1 m1 hN
    by_cases h0 : most = 0
    · have FIN : Bx (RPutR base w rc most es k x (.returned (.tuple #[.int .i64 k, .bool true])) W1) := ⟨.inr (.inl ⟨HX.out, h0, rfl, B0.out⟩)⟩
      subst h0
      go_wp2_with fail
      go_ret2
      exact FIN.out
    · have h0' : ((most : Int) == 0) = false := by simpa using h0
      have h0'' : (most == 0) = false := by simpa using h0
      obtain ⟨aa, c, hs, hnc, -, -⟩ := own_shapeK M1.out.row
      obtain ⟨n, hn⟩ : ∃ n, n = es.length := ⟨_, rfl⟩
      rw [← hn] at hs hnc
      have HS := Bx.mk hs; have HN := Bx.mk hn; have H0 := Bx.mk h0
      have MB := Bx.mk (show W1.heap[rc]? = some (.cells #[.int .i64 (most : Int), .slice aa n c] 51 (0, 0)) by rw [← hs]; exact M1.out.hb)
      have NC := Bx.mk hnc
      clear hs hn hnc h0
      go_upto_region 6 with (fail)
      clear c0 c1 h0' h0''
      by_cases hf : n = most
      · have QF : Bx (((n : Int) == (most : Int)) = true) := ⟨by rw [hf]; simp⟩
        have HF := Bx.mk hf
        clear hf
        refine wp_region_own8 (n := 76) VPcmk (fun _ => none) (VPc rc n most c aa) (by kernel_rfl) (by kernel_rfl) rfl (fun _ _ => rfl) (fun j i hj _ => by cases hj) ?_ ?_ ?_
        · exact fun oi oj v own w own' w' hij _ h r => VPc_mono rc n most c aa oi oj v own w own' w' hij h r
        · intro oi o hi f u own hsame hsn hfr hlate hkeep8 hdep
          have hkeep := hkeep8 _ (.inl rfl)
          have hb6 := hsn.below (B := W1.heap.size) (fun _ _ => rfl) (Nat.le_refl _)
          match oi, hi with
          | 0, hi =>
            cases (show some _ = some o from hi)
            have e9 : f.tmps.getD 9 undef = .bool false := hsame.slot 9 (fun i o h => invB2_not 9 (by kernel_rfl) h)
            clear hdep hsame hi hlate hfr hkeep
            exact .inl ⟨wanted_none rfl, showsO_move hsn rfl _ rfl e9⟩
          | 1, hi =>
            cases (show some _ = some o from hi)
            have e28 : (f.tmps.getD 28 undef) = .bool false := depO (V := (VPc rc n most c aa)) hdep 0 28 (by kernel_rfl) (by kernel_rfl)
            clear hdep hsame hi hlate hfr hkeep
            exact .inl ⟨wanted_none rfl, showsO_pure hsn rfl (.bool true) (by simp only [execOp, Act.eval]; go_simp) rfl⟩
          | 2, hi =>
            cases (show some _ = some o from hi)
            have e29 : (f.tmps.getD 29 undef) = .bool true := depO (V := (VPc rc n most c aa)) hdep 1 29 (by kernel_rfl) (by kernel_rfl)
            clear hdep hsame hi hlate hfr hkeep
            exact .inl ⟨wanted_none rfl, showsO_move hsn rfl _ rfl e29⟩
          | 3, hi =>
            cases (show some _ = some o from hi)
            have e0 : f.tmps.getD 0 undef = .pointer (some ⟨rc, 0, none⟩) := hsame.slot 0 (fun i o h => invB2_not 0 (by kernel_rfl) h)
            have eg : f.tmps.getD 30 undef = .bool true := depO (V := (VPc rc n most c aa)) hdep 2 30 (by kernel_rfl) (by kernel_rfl)
            clear hdep hsame hi hlate hfr hkeep
            exact .inl ⟨wanted_of 2 rfl eg (by kernel_rfl), showsO_move hsn rfl _ rfl e0⟩
          | 4, hi =>
            cases (show some _ = some o from hi)
            have e31 : (f.tmps.getD 31 undef) = .pointer (some ⟨rc, 0, none⟩) := depO (V := (VPc rc n most c aa)) hdep 3 31 (by kernel_rfl) (by kernel_rfl)
            have eg : f.tmps.getD 30 undef = .bool true := depO (V := (VPc rc n most c aa)) hdep 2 30 (by kernel_rfl) (by kernel_rfl)
            clear hdep hsame hi hlate hfr hkeep
            exact .inl ⟨wanted_of 2 rfl eg (by kernel_rfl), showsO_pure hsn rfl (.pointer (some ⟨rc, 0, none⟩)) (by simp only [execOp, Act.eval]; go_simp) rfl⟩
          | 5, hi =>
            cases (show some _ = some o from hi)
            have e32 : (f.tmps.getD 32 undef) = .pointer (some ⟨rc, 0, none⟩) := depO (V := (VPc rc n most c aa)) hdep 4 32 (by kernel_rfl) (by kernel_rfl)
            have eg : f.tmps.getD 30 undef = .bool true := depO (V := (VPc rc n most c aa)) hdep 2 30 (by kernel_rfl) (by kernel_rfl)
            clear hdep hsame hi hlate hfr hkeep
            exact .inl ⟨wanted_of 2 rfl eg (by kernel_rfl), showsO_pure hsn rfl (.pointer (some ⟨rc, 1, none⟩)) (by simp only [execOp, Act.eval]; go_simp) rfl⟩
          | 6, hi =>
            cases (show some _ = some o from hi)
            have e33 : (f.tmps.getD 33 undef) = .pointer (some ⟨rc, 1, none⟩) := depO (V := (VPc rc n most c aa)) hdep 5 33 (by kernel_rfl) (by kernel_rfl)
            have eg : f.tmps.getD 30 undef = .bool true := depO (V := (VPc rc n most c aa)) hdep 2 30 (by kernel_rfl) (by kernel_rfl)
            clear hdep hsame hi hlate hfr hkeep
            have c34 := er_cellAt ((hb6.block _ (Array.getElem?_eq_some_iff.1 MB.out).1).trans MB.out) (1) _ rfl
            exact .inl ⟨wanted_of 2 rfl eg (by kernel_rfl), showsO_pure hsn rfl (.slice aa n c) (by simp only [execOp, Act.eval]; go_simp) rfl⟩
          | 7, hi =>
            cases (show some _ = some o from hi)
            have e34 : (f.tmps.getD 34 undef) = .slice aa n c := depO (V := (VPc rc n most c aa)) hdep 6 34 (by kernel_rfl) (by kernel_rfl)
            have eg : f.tmps.getD 30 undef = .bool true := depO (V := (VPc rc n most c aa)) hdep 2 30 (by kernel_rfl) (by kernel_rfl)
            clear hdep hsame hi hlate hfr hkeep
            exact .inl ⟨wanted_of 2 rfl eg (by kernel_rfl), showsO_pure hsn rfl (.int .i64 (n : Int)) (by simp only [execOp, Act.eval]; go_simp) rfl⟩
          | 8, hi =>
            cases (show some _ = some o from hi)
            have e0 : f.tmps.getD 0 undef = .pointer (some ⟨rc, 0, none⟩) := hsame.slot 0 (fun i o h => invB2_not 0 (by kernel_rfl) h)
            have eg : f.tmps.getD 30 undef = .bool true := depO (V := (VPc rc n most c aa)) hdep 2 30 (by kernel_rfl) (by kernel_rfl)
            clear hdep hsame hi hlate hfr hkeep
            exact .inl ⟨wanted_of 2 rfl eg (by kernel_rfl), showsO_move hsn rfl _ rfl e0⟩
          | 9, hi =>
            cases (show some _ = some o from hi)
            have e36 : (f.tmps.getD 36 undef) = .pointer (some ⟨rc, 0, none⟩) := depO (V := (VPc rc n most c aa)) hdep 8 36 (by kernel_rfl) (by kernel_rfl)
            have eg : f.tmps.getD 30 undef = .bool true := depO (V := (VPc rc n most c aa)) hdep 2 30 (by kernel_rfl) (by kernel_rfl)
            clear hdep hsame hi hlate hfr hkeep
            exact .inl ⟨wanted_of 2 rfl eg (by kernel_rfl), showsO_pure hsn rfl (.pointer (some ⟨rc, 0, none⟩)) (by simp only [execOp, Act.eval]; go_simp) rfl⟩
          | 10, hi =>
            cases (show some _ = some o from hi)
            have e37 : (f.tmps.getD 37 undef) = .pointer (some ⟨rc, 0, none⟩) := depO (V := (VPc rc n most c aa)) hdep 9 37 (by kernel_rfl) (by kernel_rfl)
            have eg : f.tmps.getD 30 undef = .bool true := depO (V := (VPc rc n most c aa)) hdep 2 30 (by kernel_rfl) (by kernel_rfl)
            clear hdep hsame hi hlate hfr hkeep
            exact .inl ⟨wanted_of 2 rfl eg (by kernel_rfl), showsO_pure hsn rfl (.pointer (some ⟨rc, 0, none⟩)) (by simp only [execOp, Act.eval]; go_simp) rfl⟩
          | 11, hi =>
            cases (show some _ = some o from hi)
            have e38 : (f.tmps.getD 38 undef) = .pointer (some ⟨rc, 0, none⟩) := depO (V := (VPc rc n most c aa)) hdep 10 38 (by kernel_rfl) (by kernel_rfl)
            have eg : f.tmps.getD 30 undef = .bool true := depO (V := (VPc rc n most c aa)) hdep 2 30 (by kernel_rfl) (by kernel_rfl)
            clear hdep hsame hi hlate hfr hkeep
            have c39 := er_cellAt ((hb6.block _ (Array.getElem?_eq_some_iff.1 MB.out).1).trans MB.out) (0) _ rfl
            exact .inl ⟨wanted_of 2 rfl eg (by kernel_rfl), showsO_pure hsn rfl (.int .i64 (most : Int)) (by simp only [execOp, Act.eval]; go_simp) rfl⟩
          | 12, hi =>
            cases (show some _ = some o from hi)
            have e35 : (f.tmps.getD 35 undef) = .int .i64 (n : Int) := depO (V := (VPc rc n most c aa)) hdep 7 35 (by kernel_rfl) (by kernel_rfl)
            have e39 : (f.tmps.getD 39 undef) = .int .i64 (most : Int) := depO (V := (VPc rc n most c aa)) hdep 11 39 (by kernel_rfl) (by kernel_rfl)
            have eg : f.tmps.getD 30 undef = .bool true := depO (V := (VPc rc n most c aa)) hdep 2 30 (by kernel_rfl) (by kernel_rfl)
            clear hdep hsame hi hlate hfr hkeep
            have hq := QF.out
            exact .inl ⟨wanted_of 2 rfl eg (by kernel_rfl), showsO_pure hsn rfl (.bool true) (by simp only [execOp, Act.eval]; go_simp) rfl⟩
          | 13, hi =>
            cases (show some _ = some o from hi)
            have e30 : (f.tmps.getD 30 undef) = .bool true := depO (V := (VPc rc n most c aa)) hdep 2 30 (by kernel_rfl) (by kernel_rfl)
            have e40 : (f.tmps.getD 40 undef) = .bool true := depO (V := (VPc rc n most c aa)) hdep 12 40 (by kernel_rfl) (by kernel_rfl)
            clear hdep hsame hi hlate hfr hkeep
            exact .inl ⟨wanted_none rfl, showsO_pure hsn rfl (.bool true) (by simp only [execOp, Act.eval]; go_simp) rfl⟩
          | n + 14, hi => exact absurd hi (by simp)
        intro f u6 own hsame hsn hall
        have q28 : f.tmps.getD 28 undef = .bool false := finO (V := (VPc rc n most c aa)) hall 0 28 rfl
        have q29 : f.tmps.getD 29 undef = .bool true := finO (V := (VPc rc n most c aa)) hall 1 29 rfl
        have q30 : f.tmps.getD 30 undef = .bool true := finO (V := (VPc rc n most c aa)) hall 2 30 rfl
        have q31 : f.tmps.getD 31 undef = .pointer (some ⟨rc, 0, none⟩) := finO (V := (VPc rc n most c aa)) hall 3 31 rfl
        have q32 : f.tmps.getD 32 undef = .pointer (some ⟨rc, 0, none⟩) := finO (V := (VPc rc n most c aa)) hall 4 32 rfl
        have q33 : f.tmps.getD 33 undef = .pointer (some ⟨rc, 1, none⟩) := finO (V := (VPc rc n most c aa)) hall 5 33 rfl
        have q34 : f.tmps.getD 34 undef = .slice aa n c := finO (V := (VPc rc n most c aa)) hall 6 34 rfl
        have q35 : f.tmps.getD 35 undef = .int .i64 (n : Int) := finO (V := (VPc rc n most c aa)) hall 7 35 rfl
        have q36 : f.tmps.getD 36 undef = .pointer (some ⟨rc, 0, none⟩) := finO (V := (VPc rc n most c aa)) hall 8 36 rfl
        have q37 : f.tmps.getD 37 undef = .pointer (some ⟨rc, 0, none⟩) := finO (V := (VPc rc n most c aa)) hall 9 37 rfl
        have q38 : f.tmps.getD 38 undef = .pointer (some ⟨rc, 0, none⟩) := finO (V := (VPc rc n most c aa)) hall 10 38 rfl
        have q39 : f.tmps.getD 39 undef = .int .i64 (most : Int) := finO (V := (VPc rc n most c aa)) hall 11 39 rfl
        have q40 : f.tmps.getD 40 undef = .bool true := finO (V := (VPc rc n most c aa)) hall 12 40 rfl
        have q41 : f.tmps.getD 41 undef = .bool true := finO (V := (VPc rc n most c aa)) hall 13 41 rfl
        obtain rfl := frame_eq hsame [(28, .bool false), (29, .bool true), (30, .bool true), (31, .pointer (some ⟨rc, 0, none⟩)), (32, .pointer (some ⟨rc, 0, none⟩)), (33, .pointer (some ⟨rc, 1, none⟩)), (34, .slice aa n c), (35, .int .i64 (n : Int)), (36, .pointer (some ⟨rc, 0, none⟩)), (37, .pointer (some ⟨rc, 0, none⟩)), (38, .pointer (some ⟨rc, 0, none⟩)), (39, .int .i64 (most : Int)), (40, .bool true), (41, .bool true)] (by kernel_rfl) ⟨q28, q29, q30, q31, q32, q33, q34, q35, q36, q37, q38, q39, q40, q41, trivial⟩
        clear hall hsame q28 q29 q30 q31 q32 q33 q34 q35 q36 q37 q38 q39 q40 q41
        simp only [List.foldl, List.setIfInBounds_toArray, List.set_cons_succ, List.set_cons_zero]
        have hb6 := hsn.below (B := W1.heap.size) (fun _ _ => rfl) (Nat.le_refl _)
        have B6 := Bx.mk hb6
        clear hb6 hsn
        obtain ⟨m, hm⟩ : ∃ m, n = m + 1 := ⟨n - 1, by have := H0.out; have := HF.out; omega⟩
        subst hm
        obtain ⟨es0, y, hes⟩ : ∃ es0 y, es = es0 ++ [y] := ⟨es.dropLast, es.getLast (by intro e; have := HN.out; rw [e] at this; cases this), (List.dropLast_concat_getLast _).symm⟩
        have HES := Bx.mk hes
        have LM : Bx (es0.length = m) := ⟨by have := HN.out; rw [hes, List.length_append] at this; simp at this; omega⟩
        obtain ⟨g, rfl⟩ : ∃ g, aa = some ⟨g, 0, none⟩ := by
          have hr := M1.out.row
          rcases id hr.2 with ⟨_, h0⟩ | ⟨g, c', cur, e1, _⟩
          · have := HN.out; omega
          · rw [HS.out] at e1; injection e1 with e2 e3 e4; exact ⟨g, e2⟩
        obtain ⟨yk, hyk⟩ : ∃ yk, yk = y.1 := ⟨_, rfl⟩
        have CY : Bx (∀ u, Below u6.heap.size u6 u → u.cell? ⟨g, m * 2, none⟩ = some (.int .i64 yk)) := ⟨fun u hu => by
          have hrow := M1.out.row
          rw [HS.out, ← HN.out] at hrow
          obtain ⟨cur, hG⟩ := rowG_of hrow
          have hi : m < es.length := by have := HN.out; omega
          have h1 := hG.cell (itc_get hi (o := 0) (by decide))
          have e2 : es[m]'hi = y := by
            have h3 : es[m]? = some y := by rw [HES.out, List.getElem?_append_right (by rw [LM.out]; exact Nat.le_refl _), LM.out, Nat.sub_self]; rfl
            rw [List.getElem?_eq_getElem hi] at h3
            exact Option.some.inj h3
          rw [e2, Nat.add_zero] at h1
          have h4 := (B6.out.trans (hu.mono B6.out.size)).cell (p := ⟨g, m * 2, none⟩) (Array.getElem?_eq_some_iff.1 hG.hb).1
          rw [h4, h1, hyk]⟩
        have HYK := Bx.mk hyk
        have MM := Bx.mk (show m < 9223372036854775807 by have := HN.out; have := HLN.out; omega)
        have MC := Bx.mk (show m ≤ c by have := NC.out; omega)
        have MB1 := Bx.mk ((B6.out.block rc (Array.getElem?_eq_some_iff.1 MB.out).1).trans MB.out)
        have M6 := Bx.mk (M1.out.below B6.out)
        clear MB hes hyk
        have MB := MB1
        clear MB1
        go_wp2_with fail
        refine wp_region_own8 (n := 76) VPdmk (fun _ => none) (VPd rc m most c g yk) (by kernel_rfl) (by kernel_rfl) rfl (fun _ _ => rfl) (fun j i hj _ => by cases hj) ?_ ?_ ?_
        · exact fun oi oj v own w own' w' hij _ h r => VPd_mono rc m most c g yk oi oj v own w own' w' hij h r
        · intro oi o hi f u own hsame hsn hfr hlate hkeep8 hdep
          have hkeep := hkeep8 _ (.inl rfl)
          have hb6 := hsn.below (B := u6.heap.size) (fun _ _ => rfl) (Nat.le_refl _)
          match oi, hi with
          | 0, hi =>
            cases (show some _ = some o from hi)
            have e0 : f.tmps.getD 0 undef = .pointer (some ⟨rc, 0, none⟩) := hsame.slot 0 (fun i o h => invB2_not 0 (by kernel_rfl) h)
            clear hdep hsame hi hlate hfr hkeep
            exact .inl ⟨wanted_none rfl, showsO_move hsn rfl _ rfl e0⟩
          | 1, hi =>
            cases (show some _ = some o from hi)
            have e42 : (f.tmps.getD 42 undef) = .pointer (some ⟨rc, 0, none⟩) := depO (V := (VPd rc m most c g yk)) hdep 0 42 (by kernel_rfl) (by kernel_rfl)
            clear hdep hsame hi hlate hfr hkeep
            exact .inl ⟨wanted_none rfl, showsO_pure hsn rfl (.pointer (some ⟨rc, 0, none⟩)) (by simp only [execOp, Act.eval]; go_simp) rfl⟩
          | 2, hi =>
            cases (show some _ = some o from hi)
            have e43 : (f.tmps.getD 43 undef) = .pointer (some ⟨rc, 0, none⟩) := depO (V := (VPd rc m most c g yk)) hdep 1 43 (by kernel_rfl) (by kernel_rfl)
            clear hdep hsame hi hlate hfr hkeep
            exact .inl ⟨wanted_none rfl, showsO_pure hsn rfl (.pointer (some ⟨rc, 1, none⟩)) (by simp only [execOp, Act.eval]; go_simp) rfl⟩
          | 3, hi =>
            cases (show some _ = some o from hi)
            have e44 : (f.tmps.getD 44 undef) = .pointer (some ⟨rc, 1, none⟩) := depO (V := (VPd rc m most c g yk)) hdep 2 44 (by kernel_rfl) (by kernel_rfl)
            clear hdep hsame hi hlate hfr hkeep
            have c45 := er_cellAt ((hb6.block _ (Array.getElem?_eq_some_iff.1 MB.out).1).trans MB.out) (1) _ rfl
            exact .inl ⟨wanted_none rfl, showsO_pure hsn rfl (.slice (some ⟨g, 0, none⟩) (m + 1) c) (by simp only [execOp, Act.eval]; go_simp) rfl⟩
          | 4, hi =>
            cases (show some _ = some o from hi)
            have e0 : f.tmps.getD 0 undef = .pointer (some ⟨rc, 0, none⟩) := hsame.slot 0 (fun i o h => invB2_not 0 (by kernel_rfl) h)
            clear hdep hsame hi hlate hfr hkeep
            exact .inl ⟨wanted_none rfl, showsO_move hsn rfl _ rfl e0⟩
          | 5, hi =>
            cases (show some _ = some o from hi)
            have e46 : (f.tmps.getD 46 undef) = .pointer (some ⟨rc, 0, none⟩) := depO (V := (VPd rc m most c g yk)) hdep 4 46 (by kernel_rfl) (by kernel_rfl)
            clear hdep hsame hi hlate hfr hkeep
            exact .inl ⟨wanted_none rfl, showsO_pure hsn rfl (.pointer (some ⟨rc, 0, none⟩)) (by simp only [execOp, Act.eval]; go_simp) rfl⟩
          | 6, hi =>
            cases (show some _ = some o from hi)
            have e47 : (f.tmps.getD 47 undef) = .pointer (some ⟨rc, 0, none⟩) := depO (V := (VPd rc m most c g yk)) hdep 5 47 (by kernel_rfl) (by kernel_rfl)
            clear hdep hsame hi hlate hfr hkeep
            exact .inl ⟨wanted_none rfl, showsO_pure hsn rfl (.pointer (some ⟨rc, 1, none⟩)) (by simp only [execOp, Act.eval]; go_simp) rfl⟩
          | 7, hi =>
            cases (show some _ = some o from hi)
            have e48 : (f.tmps.getD 48 undef) = .pointer (some ⟨rc, 1, none⟩) := depO (V := (VPd rc m most c g yk)) hdep 6 48 (by kernel_rfl) (by kernel_rfl)
            clear hdep hsame hi hlate hfr hkeep
            have c49 := er_cellAt ((hb6.block _ (Array.getElem?_eq_some_iff.1 MB.out).1).trans MB.out) (1) _ rfl
            exact .inl ⟨wanted_none rfl, showsO_pure hsn rfl (.slice (some ⟨g, 0, none⟩) (m + 1) c) (by simp only [execOp, Act.eval]; go_simp) rfl⟩
          | 8, hi =>
            cases (show some _ = some o from hi)
            have e49 : (f.tmps.getD 49 undef) = .slice (some ⟨g, 0, none⟩) (m + 1) c := depO (V := (VPd rc m most c g yk)) hdep 7 49 (by kernel_rfl) (by kernel_rfl)
            clear hdep hsame hi hlate hfr hkeep
            exact .inl ⟨wanted_none rfl, showsO_pure hsn rfl (.int .i64 ((m + 1 : Nat) : Int)) (by simp only [execOp, Act.eval]; go_simp) rfl⟩
          | 9, hi =>
            cases (show some _ = some o from hi)
            have e50 : (f.tmps.getD 50 undef) = .int .i64 ((m + 1 : Nat) : Int) := depO (V := (VPd rc m most c g yk)) hdep 8 50 (by kernel_rfl) (by kernel_rfl)
            clear hdep hsame hi hlate hfr hkeep
            have hm9 := MM.out
            exact .inl ⟨wanted_none rfl, showsO_pure hsn rfl (.int .i64 (m : Int)) (by simp only [execOp, Act.eval]; go_simp; simp [IntKind.wrap, IntKind.bits, IntKind.signed]; omega) rfl⟩
          | 10, hi =>
            cases (show some _ = some o from hi)
            have e45 : (f.tmps.getD 45 undef) = .slice (some ⟨g, 0, none⟩) (m + 1) c := depO (V := (VPd rc m most c g yk)) hdep 3 45 (by kernel_rfl) (by kernel_rfl)
            have e51 : (f.tmps.getD 51 undef) = .int .i64 (m : Int) := depO (V := (VPd rc m most c g yk)) hdep 9 51 (by kernel_rfl) (by kernel_rfl)
            clear hdep hsame hi hlate hfr hkeep
            have hm1 : (0 : Int) ≤ (m : Int) := by omega
            have hm2 : (m : Int) < ((m + 1 : Nat) : Int) := by omega
            have hm3 : ¬ ((m : Int) + 1 ≤ (m : Int)) := by omega
            exact .inl ⟨wanted_none rfl, showsO_pure hsn rfl (.pointer (some ⟨g, m * 2, none⟩)) (by simp only [execOp, Act.eval]; go_simp) rfl⟩
          | 11, hi =>
            cases (show some _ = some o from hi)
            have e52 : (f.tmps.getD 52 undef) = .pointer (some ⟨g, m * 2, none⟩) := depO (V := (VPd rc m most c g yk)) hdep 10 52 (by kernel_rfl) (by kernel_rfl)
            clear hdep hsame hi hlate hfr hkeep
            exact .inl ⟨wanted_none rfl, showsO_pure hsn rfl (.pointer (some ⟨g, m * 2, none⟩)) (by simp only [execOp, Act.eval]; go_simp) rfl⟩
          | 12, hi =>
            cases (show some _ = some o from hi)
            have e53 : (f.tmps.getD 53 undef) = .pointer (some ⟨g, m * 2, none⟩) := depO (V := (VPd rc m most c g yk)) hdep 11 53 (by kernel_rfl) (by kernel_rfl)
            clear hdep hsame hi hlate hfr hkeep
            have hcy := CY.out u hb6
            exact .inl ⟨wanted_none rfl, showsO_pure hsn rfl (.int .i64 yk) (by simp only [execOp, Act.eval]; go_simp) rfl⟩
          | 13, hi =>
            cases (show some _ = some o from hi)
            have e54 : (f.tmps.getD 54 undef) = .int .i64 yk := depO (V := (VPd rc m most c g yk)) hdep 12 54 (by kernel_rfl) (by kernel_rfl)
            clear hdep hsame hi hlate hfr hkeep
            exact .inl ⟨wanted_none rfl, showsO_assign hsn rfl _ rfl e54⟩
          | n + 14, hi => exact absurd hi (by simp)
        intro f u7 own hsame hsn hall
        have q42 : f.tmps.getD 42 undef = .pointer (some ⟨rc, 0, none⟩) := finO (V := (VPd rc m most c g yk)) hall 0 42 rfl
        have q43 : f.tmps.getD 43 undef = .pointer (some ⟨rc, 0, none⟩) := finO (V := (VPd rc m most c g yk)) hall 1 43 rfl
        have q44 : f.tmps.getD 44 undef = .pointer (some ⟨rc, 1, none⟩) := finO (V := (VPd rc m most c g yk)) hall 2 44 rfl
        have q45 : f.tmps.getD 45 undef = .slice (some ⟨g, 0, none⟩) (m + 1) c := finO (V := (VPd rc m most c g yk)) hall 3 45 rfl
        have q46 : f.tmps.getD 46 undef = .pointer (some ⟨rc, 0, none⟩) := finO (V := (VPd rc m most c g yk)) hall 4 46 rfl
        have q47 : f.tmps.getD 47 undef = .pointer (some ⟨rc, 0, none⟩) := finO (V := (VPd rc m most c g yk)) hall 5 47 rfl
        have q48 : f.tmps.getD 48 undef = .pointer (some ⟨rc, 1, none⟩) := finO (V := (VPd rc m most c g yk)) hall 6 48 rfl
        have q49 : f.tmps.getD 49 undef = .slice (some ⟨g, 0, none⟩) (m + 1) c := finO (V := (VPd rc m most c g yk)) hall 7 49 rfl
        have q50 : f.tmps.getD 50 undef = .int .i64 ((m + 1 : Nat) : Int) := finO (V := (VPd rc m most c g yk)) hall 8 50 rfl
        have q51 : f.tmps.getD 51 undef = .int .i64 (m : Int) := finO (V := (VPd rc m most c g yk)) hall 9 51 rfl
        have q52 : f.tmps.getD 52 undef = .pointer (some ⟨g, m * 2, none⟩) := finO (V := (VPd rc m most c g yk)) hall 10 52 rfl
        have q53 : f.tmps.getD 53 undef = .pointer (some ⟨g, m * 2, none⟩) := finO (V := (VPd rc m most c g yk)) hall 11 53 rfl
        have q54 : f.tmps.getD 54 undef = .int .i64 yk := finO (V := (VPd rc m most c g yk)) hall 12 54 rfl
        have q10 : f.tmps.getD 10 undef = .int .i64 yk := finO (V := (VPd rc m most c g yk)) hall 13 10 rfl
        obtain rfl := frame_eq hsame [(42, .pointer (some ⟨rc, 0, none⟩)), (43, .pointer (some ⟨rc, 0, none⟩)), (44, .pointer (some ⟨rc, 1, none⟩)), (45, .slice (some ⟨g, 0, none⟩) (m + 1) c), (46, .pointer (some ⟨rc, 0, none⟩)), (47, .pointer (some ⟨rc, 0, none⟩)), (48, .pointer (some ⟨rc, 1, none⟩)), (49, .slice (some ⟨g, 0, none⟩) (m + 1) c), (50, .int .i64 ((m + 1 : Nat) : Int)), (51, .int .i64 (m : Int)), (52, .pointer (some ⟨g, m * 2, none⟩)), (53, .pointer (some ⟨g, m * 2, none⟩)), (54, .int .i64 yk), (10, .int .i64 yk)] (by kernel_rfl) ⟨q42, q43, q44, q45, q46, q47, q48, q49, q50, q51, q52, q53, q54, q10, trivial⟩
        clear hall hsame q42 q43 q44 q45 q46 q47 q48 q49 q50 q51 q52 q53 q54 q10
        simp only [List.foldl, List.setIfInBounds_toArray, List.set_cons_succ, List.set_cons_zero]
        have hb7 := hsn.below (B := u6.heap.size) (fun _ _ => rfl) (Nat.le_refl _)
        have B7 := Bx.mk hb7
        have MB7 := Bx.mk ((hb7.block rc (Array.getElem?_eq_some_iff.1 MB.out).1).trans MB.out)
        have M7 := Bx.mk (M6.out.below hb7)
        clear hb7 hsn MB CY
        have MB := MB7
        clear MB7
        have RW := Bx.mk (Array.getElem?_eq_some_iff.1 MB.out).1
        go_upto_region 9 with (fail)
        refine wp_region_own8 (n := 76) VPemk (fun k => if k = rc then some 14 else none) (VPe rc m most c g) (by kernel_rfl) (by kernel_rfl) rfl (fun k hk => if_neg (by have := RW.out; omega)) (fun j i hj _ => by cases hj) ?_ ?_ ?_
        · exact fun oi oj v own w own' w' hij _ h r => VPe_mono rc m most c g oi oj v own w own' w' hij h r
        · intro oi o hi f u own hsame hsn hfr hlate hkeep8 hdep
          have hkeep := hkeep8 _ (.inl rfl)
          match oi, hi with
          | 0, hi =>
            cases (show some _ = some o from hi)
            have e0 : f.tmps.getD 0 undef = .pointer (some ⟨rc, 0, none⟩) := hsame.slot 0 (fun i o h => invB2_not 0 (by kernel_rfl) h)
            clear hdep hsame hi hlate hfr hkeep
            exact .inl ⟨wanted_none rfl, showsO_move hsn rfl _ rfl e0⟩
          | 1, hi =>
            cases (show some _ = some o from hi)
            have e0 : f.tmps.getD 0 undef = .pointer (some ⟨rc, 0, none⟩) := hsame.slot 0 (fun i o h => invB2_not 0 (by kernel_rfl) h)
            clear hdep hsame hi hlate hfr hkeep
            exact .inl ⟨wanted_none rfl, showsO_move hsn rfl _ rfl e0⟩
          | 2, hi =>
            cases (show some _ = some o from hi)
            have e56 : (f.tmps.getD 56 undef) = .pointer (some ⟨rc, 0, none⟩) := depO (V := (VPe rc m most c g)) hdep 1 56 (by kernel_rfl) (by kernel_rfl)
            clear hdep hsame hi hlate hfr hkeep
            exact .inl ⟨wanted_none rfl, showsO_pure hsn rfl (.pointer (some ⟨rc, 0, none⟩)) (by simp only [execOp, Act.eval]; go_simp) rfl⟩
          | 3, hi =>
            cases (show some _ = some o from hi)
            have e57 : (f.tmps.getD 57 undef) = .pointer (some ⟨rc, 0, none⟩) := depO (V := (VPe rc m most c g)) hdep 2 57 (by kernel_rfl) (by kernel_rfl)
            clear hdep hsame hi hlate hfr hkeep
            exact .inl ⟨wanted_none rfl, showsO_pure hsn rfl (.pointer (some ⟨rc, 1, none⟩)) (by simp only [execOp, Act.eval]; go_simp) rfl⟩
          | 4, hi =>
            cases (show some _ = some o from hi)
            have e58 : (f.tmps.getD 58 undef) = .pointer (some ⟨rc, 1, none⟩) := depO (V := (VPe rc m most c g)) hdep 3 58 (by kernel_rfl) (by kernel_rfl)
            clear hdep hsame hi hlate hfr hkeep
            have cc1 := er_cellAt ((hkeep8 14 (.inr (by kernel_rfl)) rc RW.out (if_pos rfl)).trans MB.out) 1 _ rfl
            exact .inl ⟨wanted_none rfl, showsO_pure hsn rfl (.slice (some ⟨g, 0, none⟩) (m + 1) c) (by simp only [execOp, Act.eval]; go_simp) rfl⟩
          | 5, hi =>
            cases (show some _ = some o from hi)
            have e0 : f.tmps.getD 0 undef = .pointer (some ⟨rc, 0, none⟩) := hsame.slot 0 (fun i o h => invB2_not 0 (by kernel_rfl) h)
            clear hdep hsame hi hlate hfr hkeep
            exact .inl ⟨wanted_none rfl, showsO_move hsn rfl _ rfl e0⟩
          | 6, hi =>
            cases (show some _ = some o from hi)
            have e60 : (f.tmps.getD 60 undef) = .pointer (some ⟨rc, 0, none⟩) := depO (V := (VPe rc m most c g)) hdep 5 60 (by kernel_rfl) (by kernel_rfl)
            clear hdep hsame hi hlate hfr hkeep
            exact .inl ⟨wanted_none rfl, showsO_pure hsn rfl (.pointer (some ⟨rc, 0, none⟩)) (by simp only [execOp, Act.eval]; go_simp) rfl⟩
          | 7, hi =>
            cases (show some _ = some o from hi)
            have e61 : (f.tmps.getD 61 undef) = .pointer (some ⟨rc, 0, none⟩) := depO (V := (VPe rc m most c g)) hdep 6 61 (by kernel_rfl) (by kernel_rfl)
            clear hdep hsame hi hlate hfr hkeep
            exact .inl ⟨wanted_none rfl, showsO_pure hsn rfl (.pointer (some ⟨rc, 1, none⟩)) (by simp only [execOp, Act.eval]; go_simp) rfl⟩
          | 8, hi =>
            cases (show some _ = some o from hi)
            have e62 : (f.tmps.getD 62 undef) = .pointer (some ⟨rc, 1, none⟩) := depO (V := (VPe rc m most c g)) hdep 7 62 (by kernel_rfl) (by kernel_rfl)
            clear hdep hsame hi hlate hfr hkeep
            have cc1 := er_cellAt ((hkeep8 14 (.inr (by kernel_rfl)) rc RW.out (if_pos rfl)).trans MB.out) 1 _ rfl
            exact .inl ⟨wanted_none rfl, showsO_pure hsn rfl (.slice (some ⟨g, 0, none⟩) (m + 1) c) (by simp only [execOp, Act.eval]; go_simp) rfl⟩
          | 9, hi =>
            cases (show some _ = some o from hi)
            have e63 : (f.tmps.getD 63 undef) = .slice (some ⟨g, 0, none⟩) (m + 1) c := depO (V := (VPe rc m most c g)) hdep 8 63 (by kernel_rfl) (by kernel_rfl)
            clear hdep hsame hi hlate hfr hkeep
            exact .inl ⟨wanted_none rfl, showsO_pure hsn rfl (.int .i64 ((m + 1 : Nat) : Int)) (by simp only [execOp, Act.eval]; go_simp) rfl⟩
          | 10, hi =>
            cases (show some _ = some o from hi)
            have e64 : (f.tmps.getD 64 undef) = .int .i64 ((m + 1 : Nat) : Int) := depO (V := (VPe rc m most c g)) hdep 9 64 (by kernel_rfl) (by kernel_rfl)
            clear hdep hsame hi hlate hfr hkeep
            have hm9 := MM.out
            exact .inl ⟨wanted_none rfl, showsO_pure hsn rfl (.int .i64 (m : Int)) (by simp only [execOp, Act.eval]; go_simp; simp [IntKind.wrap, IntKind.bits, IntKind.signed]; omega) rfl⟩
          | 11, hi =>
            cases (show some _ = some o from hi)
            have e59 : (f.tmps.getD 59 undef) = .slice (some ⟨g, 0, none⟩) (m + 1) c := depO (V := (VPe rc m most c g)) hdep 4 59 (by kernel_rfl) (by kernel_rfl)
            have e65 : (f.tmps.getD 65 undef) = .int .i64 (m : Int) := depO (V := (VPe rc m most c g)) hdep 10 65 (by kernel_rfl) (by kernel_rfl)
            clear hdep hsame hi hlate hfr hkeep
            have hm1 : (0 : Int) ≤ (m : Int) := by omega
            have hm2 : (m : Int) ≤ (c : Int) := by have := MC.out; omega
            exact .inl ⟨wanted_none rfl, showsO_pure hsn rfl (.slice (some ⟨g, 0, none⟩) m c) (by simp only [execOp, Act.eval]; go_simp) rfl⟩
          | 12, hi =>
            cases (show some _ = some o from hi)
            have e55 : (f.tmps.getD 55 undef) = .pointer (some ⟨rc, 0, none⟩) := depO (V := (VPe rc m most c g)) hdep 0 55 (by kernel_rfl) (by kernel_rfl)
            clear hdep hsame hi hlate hfr hkeep
            exact .inl ⟨wanted_none rfl, showsO_pure hsn rfl (.pointer (some ⟨rc, 0, none⟩)) (by simp only [execOp, Act.eval]; go_simp) rfl⟩
          | 13, hi =>
            cases (show some _ = some o from hi)
            have e67 : (f.tmps.getD 67 undef) = .pointer (some ⟨rc, 0, none⟩) := depO (V := (VPe rc m most c g)) hdep 12 67 (by kernel_rfl) (by kernel_rfl)
            clear hdep hsame hi hlate hfr hkeep
            exact .inl ⟨wanted_none rfl, showsO_pure hsn rfl (.pointer (some ⟨rc, 1, none⟩)) (by simp only [execOp, Act.eval]; go_simp) rfl⟩
          | 14, hi =>
            cases (show some _ = some o from hi)
            have e66 : (f.tmps.getD 66 undef) = .slice (some ⟨g, 0, none⟩) m c := depO (V := (VPe rc m most c g)) hdep 11 66 (by kernel_rfl) (by kernel_rfl)
            have e68 : (f.tmps.getD 68 undef) = .pointer (some ⟨rc, 1, none⟩) := depO (V := (VPe rc m most c g)) hdep 13 68 (by kernel_rfl) (by kernel_rfl)
            clear hdep hsame hi hlate hfr hkeep
            have hst := er_cellAt ((hkeep8 14 (.inl rfl) rc RW.out (if_pos rfl)).trans MB.out) 1 _ rfl
            have hfr2 : u.frozen? ⟨rc, 1, none⟩ = false := frozenC ((hkeep8 14 (.inl rfl) rc RW.out (if_pos rfl)).trans MB.out) 1
            exact .inl ⟨wanted_none rfl, showsO_store_cell hsn hkeep8 rfl rc 1 #[.int .i64 (most : Int), .slice (some ⟨g, 0, none⟩) (m + 1) c] 51 MB.out (if_pos rfl) (.slice (some ⟨g, 0, none⟩) m c) (by simp only [execOp, Act.eval]; go_simp) (fun h => h)⟩
          | n + 15, hi => exact absurd hi (by simp)
        · intro f u9 own hsame hsn hall
          have q55 : f.tmps.getD 55 undef = .pointer (some ⟨rc, 0, none⟩) := finO (V := (VPe rc m most c g)) hall 0 55 rfl
          have q56 : f.tmps.getD 56 undef = .pointer (some ⟨rc, 0, none⟩) := finO (V := (VPe rc m most c g)) hall 1 56 rfl
          have q57 : f.tmps.getD 57 undef = .pointer (some ⟨rc, 0, none⟩) := finO (V := (VPe rc m most c g)) hall 2 57 rfl
          have q58 : f.tmps.getD 58 undef = .pointer (some ⟨rc, 1, none⟩) := finO (V := (VPe rc m most c g)) hall 3 58 rfl
          have q59 : f.tmps.getD 59 undef = .slice (some ⟨g, 0, none⟩) (m + 1) c := finO (V := (VPe rc m most c g)) hall 4 59 rfl
          have q60 : f.tmps.getD 60 undef = .pointer (some ⟨rc, 0, none⟩) := finO (V := (VPe rc m most c g)) hall 5 60 rfl
          have q61 : f.tmps.getD 61 undef = .pointer (some ⟨rc, 0, none⟩) := finO (V := (VPe rc m most c g)) hall 6 61 rfl
          have q62 : f.tmps.getD 62 undef = .pointer (some ⟨rc, 1, none⟩) := finO (V := (VPe rc m most c g)) hall 7 62 rfl
          have q63 : f.tmps.getD 63 undef = .slice (some ⟨g, 0, none⟩) (m + 1) c := finO (V := (VPe rc m most c g)) hall 8 63 rfl
          have q64 : f.tmps.getD 64 undef = .int .i64 ((m + 1 : Nat) : Int) := finO (V := (VPe rc m most c g)) hall 9 64 rfl
          have q65 : f.tmps.getD 65 undef = .int .i64 (m : Int) := finO (V := (VPe rc m most c g)) hall 10 65 rfl
          have q66 : f.tmps.getD 66 undef = .slice (some ⟨g, 0, none⟩) m c := finO (V := (VPe rc m most c g)) hall 11 66 rfl
          have q67 : f.tmps.getD 67 undef = .pointer (some ⟨rc, 0, none⟩) := finO (V := (VPe rc m most c g)) hall 12 67 rfl
          have q68 : f.tmps.getD 68 undef = .pointer (some ⟨rc, 1, none⟩) := finO (V := (VPe rc m most c g)) hall 13 68 rfl
          obtain ⟨o_14, m_14⟩ : OutV own u9 (rc) 14 51 #[.int .i64 (most : Int), .slice (some ⟨g, 0, none⟩) m c] := finN (V := (VPe rc m most c g)) hall 14 rfl
          obtain rfl := frame_eq hsame [(55, .pointer (some ⟨rc, 0, none⟩)), (56, .pointer (some ⟨rc, 0, none⟩)), (57, .pointer (some ⟨rc, 0, none⟩)), (58, .pointer (some ⟨rc, 1, none⟩)), (59, .slice (some ⟨g, 0, none⟩) (m + 1) c), (60, .pointer (some ⟨rc, 0, none⟩)), (61, .pointer (some ⟨rc, 0, none⟩)), (62, .pointer (some ⟨rc, 1, none⟩)), (63, .slice (some ⟨g, 0, none⟩) (m + 1) c), (64, .int .i64 ((m + 1 : Nat) : Int)), (65, .int .i64 (m : Int)), (66, .slice (some ⟨g, 0, none⟩) m c), (67, .pointer (some ⟨rc, 0, none⟩)), (68, .pointer (some ⟨rc, 1, none⟩))] (by kernel_rfl) ⟨q55, q56, q57, q58, q59, q60, q61, q62, q63, q64, q65, q66, q67, q68, trivial⟩
          clear hall hsame q55 q56 q57 q58 q59 q60 q61 q62 q63 q64 q65 q66 q67 q68
          simp only [List.foldl, List.setIfInBounds_toArray, List.set_cons_succ, List.set_cons_zero]
          have RO := Bx.mk m_14
          have K9 : Bx (Keep (fun k => k = rc) u7 u9) := ⟨⟨hsn.os, hsn.tape, hsn.output, hsn.size, fun k hk hn => hsn.keep k hk (if_neg hn)⟩⟩
          have M9 : Bx (RfM base u9 rc most es0 (.slice (some ⟨g, 0, none⟩) m c)) := ⟨⟨RO.out, M7.out.br, by
            have hrow := M7.out.row
            rw [HS.out, ← HN.out] at hrow
            have h2 := ownsRow_keep' hrow fun j hj => K9.out.block j (ownsRow_lt hrow j hj) (fun e => M7.out.apart j (by rw [HS.out]; exact hj) e)
            obtain ⟨cur, hG⟩ := rowG_of h2
            have h3 := hG.shorter
            rw [itc_take es m (by have := HN.out; omega)] at h3
            rw [LM.out]
            have e4 : es.take m = es0 := by rw [HES.out, ← LM.out, List.take_left']; rfl
            rw [e4] at h3
            exact h3⟩⟩
          have SZ := Bx.mk (show w.heap.size ≤ u9.heap.size by have h1 := B0.out.size; have h2 := B6.out.size; have h3 := B7.out.size; have h4 := K9.out.size; omega)
          have LE := Bx.mk (show es0.length ≤ 2000 by have := LM.out; have := HN.out; have := HLN.out; omega)
          have K0 := Bx.mk ((Keep.of_below (B0.out.trans ((B6.out.trans (B7.out.mono B6.out.size)).mono B0.out.size)) (fun k => k = rc)).trans K9.out (fun _ _ h => h))
          clear m_14 o_14 hsn
          go_wp2_with fail
          refine (first13_any base u9 rc most es0 _ M9.out (Nat.le_trans HBS.out SZ.out) (LE.out) k x).mono ?_
          rintro e w2 ⟨rfl, L2, hM2, hk2, hf2⟩
          have FIN : Bx (RPutR base w rc most es k x (.returned (.tuple #[.int .i64 yk, .bool true])) w2) := ⟨.inr (.inr (.inr ⟨HX.out, es0, y, HES.out, by rw [← HN.out]; exact HF.out, by rw [HYK.out], L2, hM2, K0.out.trans hk2 (fun _ _ h => h), fun j hj => Nat.le_trans SZ.out (hf2 j hj)⟩))⟩
          clear hM2 hk2 hf2
          go_wp2_with fail
          go_ret2
          exact FIN.out
      · have QF : Bx (((n : Int) == (most : Int)) = false) := ⟨by simp; omega⟩
        have HF := Bx.mk hf
        clear hf
        refine wp_region_own8 (n := 76) VPbmk (fun _ => none) (VPb rc n most c aa) (by kernel_rfl) (by kernel_rfl) rfl (fun _ _ => rfl) (fun j i hj _ => by cases hj) ?_ ?_ ?_
        · exact fun oi oj v own w own' w' hij _ h r => VPb_mono rc n most c aa oi oj v own w own' w' hij h r
        · intro oi o hi f u own hsame hsn hfr hlate hkeep8 hdep
          have hkeep := hkeep8 _ (.inl rfl)
          have hb6 := hsn.below (B := W1.heap.size) (fun _ _ => rfl) (Nat.le_refl _)
          match oi, hi with
          | 0, hi =>
            cases (show some _ = some o from hi)
            have e9 : f.tmps.getD 9 undef = .bool false := hsame.slot 9 (fun i o h => invB2_not 9 (by kernel_rfl) h)
            clear hdep hsame hi hlate hfr hkeep
            exact .inl ⟨wanted_none rfl, showsO_move hsn rfl _ rfl e9⟩
          | 1, hi =>
            cases (show some _ = some o from hi)
            have e28 : (f.tmps.getD 28 undef) = .bool false := depO (V := (VPb rc n most c aa)) hdep 0 28 (by kernel_rfl) (by kernel_rfl)
            clear hdep hsame hi hlate hfr hkeep
            exact .inl ⟨wanted_none rfl, showsO_pure hsn rfl (.bool true) (by simp only [execOp, Act.eval]; go_simp) rfl⟩
          | 2, hi =>
            cases (show some _ = some o from hi)
            have e29 : (f.tmps.getD 29 undef) = .bool true := depO (V := (VPb rc n most c aa)) hdep 1 29 (by kernel_rfl) (by kernel_rfl)
            clear hdep hsame hi hlate hfr hkeep
            exact .inl ⟨wanted_none rfl, showsO_move hsn rfl _ rfl e29⟩
          | 3, hi =>
            cases (show some _ = some o from hi)
            have e0 : f.tmps.getD 0 undef = .pointer (some ⟨rc, 0, none⟩) := hsame.slot 0 (fun i o h => invB2_not 0 (by kernel_rfl) h)
            have eg : f.tmps.getD 30 undef = .bool true := depO (V := (VPb rc n most c aa)) hdep 2 30 (by kernel_rfl) (by kernel_rfl)
            clear hdep hsame hi hlate hfr hkeep
            exact .inl ⟨wanted_of 2 rfl eg (by kernel_rfl), showsO_move hsn rfl _ rfl e0⟩
          | 4, hi =>
            cases (show some _ = some o from hi)
            have e31 : (f.tmps.getD 31 undef) = .pointer (some ⟨rc, 0, none⟩) := depO (V := (VPb rc n most c aa)) hdep 3 31 (by kernel_rfl) (by kernel_rfl)
            have eg : f.tmps.getD 30 undef = .bool true := depO (V := (VPb rc n most c aa)) hdep 2 30 (by kernel_rfl) (by kernel_rfl)
            clear hdep hsame hi hlate hfr hkeep
            exact .inl ⟨wanted_of 2 rfl eg (by kernel_rfl), showsO_pure hsn rfl (.pointer (some ⟨rc, 0, none⟩)) (by simp only [execOp, Act.eval]; go_simp) rfl⟩
          | 5, hi =>
            cases (show some _ = some o from hi)
            have e32 : (f.tmps.getD 32 undef) = .pointer (some ⟨rc, 0, none⟩) := depO (V := (VPb rc n most c aa)) hdep 4 32 (by kernel_rfl) (by kernel_rfl)
            have eg : f.tmps.getD 30 undef = .bool true := depO (V := (VPb rc n most c aa)) hdep 2 30 (by kernel_rfl) (by kernel_rfl)
            clear hdep hsame hi hlate hfr hkeep
            exact .inl ⟨wanted_of 2 rfl eg (by kernel_rfl), showsO_pure hsn rfl (.pointer (some ⟨rc, 1, none⟩)) (by simp only [execOp, Act.eval]; go_simp) rfl⟩
          | 6, hi =>
            cases (show some _ = some o from hi)
            have e33 : (f.tmps.getD 33 undef) = .pointer (some ⟨rc, 1, none⟩) := depO (V := (VPb rc n most c aa)) hdep 5 33 (by kernel_rfl) (by kernel_rfl)
            have eg : f.tmps.getD 30 undef = .bool true := depO (V := (VPb rc n most c aa)) hdep 2 30 (by kernel_rfl) (by kernel_rfl)
            clear hdep hsame hi hlate hfr hkeep
            have c34 := er_cellAt ((hb6.block _ (Array.getElem?_eq_some_iff.1 MB.out).1).trans MB.out) (1) _ rfl
            exact .inl ⟨wanted_of 2 rfl eg (by kernel_rfl), showsO_pure hsn rfl (.slice aa n c) (by simp only [execOp, Act.eval]; go_simp) rfl⟩
          | 7, hi =>
            cases (show some _ = some o from hi)
            have e34 : (f.tmps.getD 34 undef) = .slice aa n c := depO (V := (VPb rc n most c aa)) hdep 6 34 (by kernel_rfl) (by kernel_rfl)
            have eg : f.tmps.getD 30 undef = .bool true := depO (V := (VPb rc n most c aa)) hdep 2 30 (by kernel_rfl) (by kernel_rfl)
            clear hdep hsame hi hlate hfr hkeep
            exact .inl ⟨wanted_of 2 rfl eg (by kernel_rfl), showsO_pure hsn rfl (.int .i64 (n : Int)) (by simp only [execOp, Act.eval]; go_simp) rfl⟩
          | 8, hi =>
            cases (show some _ = some o from hi)
            have e0 : f.tmps.getD 0 undef = .pointer (some ⟨rc, 0, none⟩) := hsame.slot 0 (fun i o h => invB2_not 0 (by kernel_rfl) h)
            have eg : f.tmps.getD 30 undef = .bool true := depO (V := (VPb rc n most c aa)) hdep 2 30 (by kernel_rfl) (by kernel_rfl)
            clear hdep hsame hi hlate hfr hkeep
            exact .inl ⟨wanted_of 2 rfl eg (by kernel_rfl), showsO_move hsn rfl _ rfl e0⟩
          | 9, hi =>
            cases (show some _ = some o from hi)
            have e36 : (f.tmps.getD 36 undef) = .pointer (some ⟨rc, 0, none⟩) := depO (V := (VPb rc n most c aa)) hdep 8 36 (by kernel_rfl) (by kernel_rfl)
            have eg : f.tmps.getD 30 undef = .bool true := depO (V := (VPb rc n most c aa)) hdep 2 30 (by kernel_rfl) (by kernel_rfl)
            clear hdep hsame hi hlate hfr hkeep
            exact .inl ⟨wanted_of 2 rfl eg (by kernel_rfl), showsO_pure hsn rfl (.pointer (some ⟨rc, 0, none⟩)) (by simp only [execOp, Act.eval]; go_simp) rfl⟩
          | 10, hi =>
            cases (show some _ = some o from hi)
            have e37 : (f.tmps.getD 37 undef) = .pointer (some ⟨rc, 0, none⟩) := depO (V := (VPb rc n most c aa)) hdep 9 37 (by kernel_rfl) (by kernel_rfl)
            have eg : f.tmps.getD 30 undef = .bool true := depO (V := (VPb rc n most c aa)) hdep 2 30 (by kernel_rfl) (by kernel_rfl)
            clear hdep hsame hi hlate hfr hkeep
            exact .inl ⟨wanted_of 2 rfl eg (by kernel_rfl), showsO_pure hsn rfl (.pointer (some ⟨rc, 0, none⟩)) (by simp only [execOp, Act.eval]; go_simp) rfl⟩
          | 11, hi =>
            cases (show some _ = some o from hi)
            have e38 : (f.tmps.getD 38 undef) = .pointer (some ⟨rc, 0, none⟩) := depO (V := (VPb rc n most c aa)) hdep 10 38 (by kernel_rfl) (by kernel_rfl)
            have eg : f.tmps.getD 30 undef = .bool true := depO (V := (VPb rc n most c aa)) hdep 2 30 (by kernel_rfl) (by kernel_rfl)
            clear hdep hsame hi hlate hfr hkeep
            have c39 := er_cellAt ((hb6.block _ (Array.getElem?_eq_some_iff.1 MB.out).1).trans MB.out) (0) _ rfl
            exact .inl ⟨wanted_of 2 rfl eg (by kernel_rfl), showsO_pure hsn rfl (.int .i64 (most : Int)) (by simp only [execOp, Act.eval]; go_simp) rfl⟩
          | 12, hi =>
            cases (show some _ = some o from hi)
            have e35 : (f.tmps.getD 35 undef) = .int .i64 (n : Int) := depO (V := (VPb rc n most c aa)) hdep 7 35 (by kernel_rfl) (by kernel_rfl)
            have e39 : (f.tmps.getD 39 undef) = .int .i64 (most : Int) := depO (V := (VPb rc n most c aa)) hdep 11 39 (by kernel_rfl) (by kernel_rfl)
            have eg : f.tmps.getD 30 undef = .bool true := depO (V := (VPb rc n most c aa)) hdep 2 30 (by kernel_rfl) (by kernel_rfl)
            clear hdep hsame hi hlate hfr hkeep
            have hq := QF.out
            exact .inl ⟨wanted_of 2 rfl eg (by kernel_rfl), showsO_pure hsn rfl (.bool false) (by simp only [execOp, Act.eval]; go_simp) rfl⟩
          | 13, hi =>
            cases (show some _ = some o from hi)
            have e30 : (f.tmps.getD 30 undef) = .bool true := depO (V := (VPb rc n most c aa)) hdep 2 30 (by kernel_rfl) (by kernel_rfl)
            have e40 : (f.tmps.getD 40 undef) = .bool false := depO (V := (VPb rc n most c aa)) hdep 12 40 (by kernel_rfl) (by kernel_rfl)
            clear hdep hsame hi hlate hfr hkeep
            exact .inl ⟨wanted_none rfl, showsO_pure hsn rfl (.bool false) (by simp only [execOp, Act.eval]; go_simp) rfl⟩
          | n + 14, hi => exact absurd hi (by simp)
        intro f u6 own hsame hsn hall
        have q28 : f.tmps.getD 28 undef = .bool false := finO (V := (VPb rc n most c aa)) hall 0 28 rfl
        have q29 : f.tmps.getD 29 undef = .bool true := finO (V := (VPb rc n most c aa)) hall 1 29 rfl
        have q30 : f.tmps.getD 30 undef = .bool true := finO (V := (VPb rc n most c aa)) hall 2 30 rfl
        have q31 : f.tmps.getD 31 undef = .pointer (some ⟨rc, 0, none⟩) := finO (V := (VPb rc n most c aa)) hall 3 31 rfl
        have q32 : f.tmps.getD 32 undef = .pointer (some ⟨rc, 0, none⟩) := finO (V := (VPb rc n most c aa)) hall 4 32 rfl
        have q33 : f.tmps.getD 33 undef = .pointer (some ⟨rc, 1, none⟩) := finO (V := (VPb rc n most c aa)) hall 5 33 rfl
        have q34 : f.tmps.getD 34 undef = .slice aa n c := finO (V := (VPb rc n most c aa)) hall 6 34 rfl
        have q35 : f.tmps.getD 35 undef = .int .i64 (n : Int) := finO (V := (VPb rc n most c aa)) hall 7 35 rfl
        have q36 : f.tmps.getD 36 undef = .pointer (some ⟨rc, 0, none⟩) := finO (V := (VPb rc n most c aa)) hall 8 36 rfl
        have q37 : f.tmps.getD 37 undef = .pointer (some ⟨rc, 0, none⟩) := finO (V := (VPb rc n most c aa)) hall 9 37 rfl
        have q38 : f.tmps.getD 38 undef = .pointer (some ⟨rc, 0, none⟩) := finO (V := (VPb rc n most c aa)) hall 10 38 rfl
        have q39 : f.tmps.getD 39 undef = .int .i64 (most : Int) := finO (V := (VPb rc n most c aa)) hall 11 39 rfl
        have q40 : f.tmps.getD 40 undef = .bool false := finO (V := (VPb rc n most c aa)) hall 12 40 rfl
        have q41 : f.tmps.getD 41 undef = .bool false := finO (V := (VPb rc n most c aa)) hall 13 41 rfl
        obtain rfl := frame_eq hsame [(28, .bool false), (29, .bool true), (30, .bool true), (31, .pointer (some ⟨rc, 0, none⟩)), (32, .pointer (some ⟨rc, 0, none⟩)), (33, .pointer (some ⟨rc, 1, none⟩)), (34, .slice aa n c), (35, .int .i64 (n : Int)), (36, .pointer (some ⟨rc, 0, none⟩)), (37, .pointer (some ⟨rc, 0, none⟩)), (38, .pointer (some ⟨rc, 0, none⟩)), (39, .int .i64 (most : Int)), (40, .bool false), (41, .bool false)] (by kernel_rfl) ⟨q28, q29, q30, q31, q32, q33, q34, q35, q36, q37, q38, q39, q40, q41, trivial⟩
        clear hall hsame q28 q29 q30 q31 q32 q33 q34 q35 q36 q37 q38 q39 q40 q41
        simp only [List.foldl, List.setIfInBounds_toArray, List.set_cons_succ, List.set_cons_zero]
        have hb6 := hsn.below (B := W1.heap.size) (fun _ _ => rfl) (Nat.le_refl _)
        have M6 := Bx.mk (M1.out.below hb6)
        have SZ := Bx.mk (show w.heap.size ≤ u6.heap.size from Nat.le_trans B0.out.size hb6.size)
        have LE := Bx.mk (show es.length ≤ 2000 by have := HLN.out; omega)
        have K0 := Bx.mk (Keep.of_below (B0.out.trans (hb6.mono B0.out.size)) (fun k => k = rc))
        clear hb6 hsn
        go_wp2_with fail
        refine (first13_any base u6 rc most es _ M6.out (Nat.le_trans HBS.out SZ.out) (LE.out) k x).mono ?_
        rintro e w2 ⟨rfl, L2, hM2, hk2, hf2⟩
        have FIN : Bx (RPutR base w rc most es k x (.returned (.tuple #[.int .i64 0, .bool false])) w2) := ⟨.inr (.inr (.inl ⟨HX.out, by have h1 := HN.out; have h2 := HF.out; have h3 := HLM.out; omega, rfl, L2, hM2, K0.out.trans hk2 (fun _ _ h => h), fun j hj => Nat.le_trans SZ.out (hf2 j hj)⟩))⟩
        clear hM2 hk2 hf2
        go_wp2_with fail
        go_ret2
        exact FIN.out
  · have x1 := heap_alloc_new w1 (.cells #[.int .i64 k, .int .i64 (es[t]'ht).2] 84)
    have b1 := er_al (Below.refl w1.heap.size w1) (.cells #[.int .i64 k, .int .i64 (es[t]'ht).2] 84)
    obtain ⟨vv, hvv⟩ : ∃ vv, vv = (es[t]'ht).2 := ⟨_, rfl⟩
    rw [← hvv] at x1 b1 ⊢
    have TE := Bx.mk ht; have HKE : Bx ((es[t]'TE.out).1 = k) := ⟨hke⟩; have HVV : Bx (vv = (es[t]'TE.out).2) := ⟨hvv⟩; have HM := Bx.mk hM; have HK := Bx.mk hkp; have HF := Bx.mk hf
    clear ht hke hvv hM hkp hf
    go_upto_region 2 with (fail)
    change Code.wp _ _ _ _ (w1.alloc (.cells #[.int .i64 k, .int .i64 vv] 84))
    generalize w1.alloc (.cells #[.int .i64 k, .int .i64 vv] 84) = W1 at x1 b1 ⊢
    obtain ⟨N, hN⟩ : ∃ N, N = w1.heap.size := ⟨_, rfl⟩
    rw [← hN] at x1 ⊢
    have M1 := Bx.mk (HM.out.below b1); have X1 := Bx.mk x1; have B1 := Bx.mk b1; have HN := Bx.mk hN
    obtain ⟨d0, d1⟩ := cells2 x1
    have K1 := Bx.mk (HK.out.trans (Keep.of_below b1 (fun k => k = rc)) (fun _ _ h => h))
    have F1 := Bx.mk (fun k (hk : L1.ownBlock = some k) => HF.out k hk)
    have SZ := Bx.mk (show w.heap.size ≤ W1.heap.size from K1.out.size)
    have LE := Bx.mk (show (es.eraseIdx t).length ≤ 2000 by have := HLN.out; have := List.length_eraseIdx_le (l := es) (i := t); omega)
    clear x1 b1 hN
    go_upto_region 6 with (fail)
    clear d0 d1
    refine wp_region_own8 (n := 76) VPamk (fun _ => none) (VPa rc) (by kernel_rfl) (by kernel_rfl) rfl (fun _ _ => rfl) (fun j i hj _ => by cases hj) ?_ ?_ ?_
    · exact fun oi oj v own w own' w' hij _ h r => VPa_mono rc oi oj v own w own' w' hij h r
    · intro oi o hi f u own hsame hsn hfr hlate hkeep8 hdep
      have hkeep := hkeep8 _ (.inl rfl)
      have hb6 := hsn.below (B := W1.heap.size) (fun _ _ => rfl) (Nat.le_refl _)
      match oi, hi with
      | 0, hi =>
        cases (show some _ = some o from hi)
        have e9 : f.tmps.getD 9 undef = .bool true := hsame.slot 9 (fun i o h => invB2_not 9 (by kernel_rfl) h)
        clear hdep hsame hi hlate hfr hkeep
        exact .inl ⟨wanted_none rfl, showsO_move hsn rfl _ rfl e9⟩
      | 1, hi =>
        cases (show some _ = some o from hi)
        have e28 : (f.tmps.getD 28 undef) = .bool true := depO (V := (VPa rc)) hdep 0 28 (by kernel_rfl) (by kernel_rfl)
        clear hdep hsame hi hlate hfr hkeep
        exact .inl ⟨wanted_none rfl, showsO_pure hsn rfl (.bool false) (by simp only [execOp, Act.eval]; go_simp) rfl⟩
      | 2, hi =>
        cases (show some _ = some o from hi)
        have e29 : (f.tmps.getD 29 undef) = .bool false := depO (V := (VPa rc)) hdep 1 29 (by kernel_rfl) (by kernel_rfl)
        clear hdep hsame hi hlate hfr hkeep
        exact .inl ⟨wanted_none rfl, showsO_move hsn rfl _ rfl e29⟩
      | 3, hi =>
        cases (show some _ = some o from hi)
        have e0 : f.tmps.getD 0 undef = .pointer (some ⟨rc, 0, none⟩) := hsame.slot 0 (fun i o h => invB2_not 0 (by kernel_rfl) h)
        have eg : f.tmps.getD 30 undef = .bool false := depO (V := (VPa rc)) hdep 2 30 (by kernel_rfl) (by kernel_rfl)
        clear hdep hsame hi hlate hfr hkeep
        exact .inr ⟨unwanted_of 2 rfl eg (by kernel_rfl) (by decide), rfl⟩
      | 4, hi =>
        cases (show some _ = some o from hi)
        have e31 : (f.tmps.getD 31 undef) = undef := depO (V := (VPa rc)) hdep 3 31 (by kernel_rfl) (by kernel_rfl)
        have eg : f.tmps.getD 30 undef = .bool false := depO (V := (VPa rc)) hdep 2 30 (by kernel_rfl) (by kernel_rfl)
        clear hdep hsame hi hlate hfr hkeep
        exact .inr ⟨unwanted_of 2 rfl eg (by kernel_rfl) (by decide), rfl⟩
      | 5, hi =>
        cases (show some _ = some o from hi)
        have e32 : (f.tmps.getD 32 undef) = undef := depO (V := (VPa rc)) hdep 4 32 (by kernel_rfl) (by kernel_rfl)
        have eg : f.tmps.getD 30 undef = .bool false := depO (V := (VPa rc)) hdep 2 30 (by kernel_rfl) (by kernel_rfl)
        clear hdep hsame hi hlate hfr hkeep
        exact .inr ⟨unwanted_of 2 rfl eg (by kernel_rfl) (by decide), rfl⟩
      | 6, hi =>
        cases (show some _ = some o from hi)
        have e33 : (f.tmps.getD 33 undef) = undef := depO (V := (VPa rc)) hdep 5 33 (by kernel_rfl) (by kernel_rfl)
        have eg : f.tmps.getD 30 undef = .bool false := depO (V := (VPa rc)) hdep 2 30 (by kernel_rfl) (by kernel_rfl)
        clear hdep hsame hi hlate hfr hkeep
        exact .inr ⟨unwanted_of 2 rfl eg (by kernel_rfl) (by decide), rfl⟩
      | 7, hi =>
        cases (show some _ = some o from hi)
        have e34 : (f.tmps.getD 34 undef) = undef := depO (V := (VPa rc)) hdep 6 34 (by kernel_rfl) (by kernel_rfl)
        have eg : f.tmps.getD 30 undef = .bool false := depO (V := (VPa rc)) hdep 2 30 (by kernel_rfl) (by kernel_rfl)
        clear hdep hsame hi hlate hfr hkeep
        exact .inr ⟨unwanted_of 2 rfl eg (by kernel_rfl) (by decide), rfl⟩
      | 8, hi =>
        cases (show some _ = some o from hi)
        have e0 : f.tmps.getD 0 undef = .pointer (some ⟨rc, 0, none⟩) := hsame.slot 0 (fun i o h => invB2_not 0 (by kernel_rfl) h)
        have eg : f.tmps.getD 30 undef = .bool false := depO (V := (VPa rc)) hdep 2 30 (by kernel_rfl) (by kernel_rfl)
        clear hdep hsame hi hlate hfr hkeep
        exact .inr ⟨unwanted_of 2 rfl eg (by kernel_rfl) (by decide), rfl⟩
      | 9, hi =>
        cases (show some _ = some o from hi)
        have e36 : (f.tmps.getD 36 undef) = undef := depO (V := (VPa rc)) hdep 8 36 (by kernel_rfl) (by kernel_rfl)
        have eg : f.tmps.getD 30 undef = .bool false := depO (V := (VPa rc)) hdep 2 30 (by kernel_rfl) (by kernel_rfl)
        clear hdep hsame hi hlate hfr hkeep
        exact .inr ⟨unwanted_of 2 rfl eg (by kernel_rfl) (by decide), rfl⟩
      | 10, hi =>
        cases (show some _ = some o from hi)
        have e37 : (f.tmps.getD 37 undef) = undef := depO (V := (VPa rc)) hdep 9 37 (by kernel_rfl) (by kernel_rfl)
        have eg : f.tmps.getD 30 undef = .bool false := depO (V := (VPa rc)) hdep 2 30 (by kernel_rfl) (by kernel_rfl)
        clear hdep hsame hi hlate hfr hkeep
        exact .inr ⟨unwanted_of 2 rfl eg (by kernel_rfl) (by decide), rfl⟩
      | 11, hi =>
        cases (show some _ = some o from hi)
        have e38 : (f.tmps.getD 38 undef) = undef := depO (V := (VPa rc)) hdep 10 38 (by kernel_rfl) (by kernel_rfl)
        have eg : f.tmps.getD 30 undef = .bool false := depO (V := (VPa rc)) hdep 2 30 (by kernel_rfl) (by kernel_rfl)
        clear hdep hsame hi hlate hfr hkeep
        exact .inr ⟨unwanted_of 2 rfl eg (by kernel_rfl) (by decide), rfl⟩
      | 12, hi =>
        cases (show some _ = some o from hi)
        have e35 : (f.tmps.getD 35 undef) = undef := depO (V := (VPa rc)) hdep 7 35 (by kernel_rfl) (by kernel_rfl)
        have e39 : (f.tmps.getD 39 undef) = undef := depO (V := (VPa rc)) hdep 11 39 (by kernel_rfl) (by kernel_rfl)
        have eg : f.tmps.getD 30 undef = .bool false := depO (V := (VPa rc)) hdep 2 30 (by kernel_rfl) (by kernel_rfl)
        clear hdep hsame hi hlate hfr hkeep
        exact .inr ⟨unwanted_of 2 rfl eg (by kernel_rfl) (by decide), rfl⟩
      | 13, hi =>
        cases (show some _ = some o from hi)
        have e30 : (f.tmps.getD 30 undef) = .bool false := depO (V := (VPa rc)) hdep 2 30 (by kernel_rfl) (by kernel_rfl)
        have e40 : (f.tmps.getD 40 undef) = undef := depO (V := (VPa rc)) hdep 12 40 (by kernel_rfl) (by kernel_rfl)
        clear hdep hsame hi hlate hfr hkeep
        exact .inl ⟨wanted_none rfl, showsO_pure hsn rfl (.bool false) (by simp only [execOp, Act.eval]; go_simp) rfl⟩
      | n + 14, hi => exact absurd hi (by simp)
    intro f u6 own hsame hsn hall
    have q28 : f.tmps.getD 28 undef = .bool true := finO (V := (VPa rc)) hall 0 28 rfl
    have q29 : f.tmps.getD 29 undef = .bool false := finO (V := (VPa rc)) hall 1 29 rfl
    have q30 : f.tmps.getD 30 undef = .bool false := finO (V := (VPa rc)) hall 2 30 rfl
    have q31 : f.tmps.getD 31 undef = undef := finO (V := (VPa rc)) hall 3 31 rfl
    have q32 : f.tmps.getD 32 undef = undef := finO (V := (VPa rc)) hall 4 32 rfl
    have q33 : f.tmps.getD 33 undef = undef := finO (V := (VPa rc)) hall 5 33 rfl
    have q34 : f.tmps.getD 34 undef = undef := finO (V := (VPa rc)) hall 6 34 rfl
    have q35 : f.tmps.getD 35 undef = undef := finO (V := (VPa rc)) hall 7 35 rfl
    have q36 : f.tmps.getD 36 undef = undef := finO (V := (VPa rc)) hall 8 36 rfl
    have q37 : f.tmps.getD 37 undef = undef := finO (V := (VPa rc)) hall 9 37 rfl
    have q38 : f.tmps.getD 38 undef = undef := finO (V := (VPa rc)) hall 10 38 rfl
    have q39 : f.tmps.getD 39 undef = undef := finO (V := (VPa rc)) hall 11 39 rfl
    have q40 : f.tmps.getD 40 undef = undef := finO (V := (VPa rc)) hall 12 40 rfl
    have q41 : f.tmps.getD 41 undef = .bool false := finO (V := (VPa rc)) hall 13 41 rfl
    obtain rfl := frame_eq hsame [(28, .bool true), (29, .bool false), (30, .bool false), (31, undef), (32, undef), (33, undef), (34, undef), (35, undef), (36, undef), (37, undef), (38, undef), (39, undef), (40, undef), (41, .bool false)] (by kernel_rfl) ⟨q28, q29, q30, q31, q32, q33, q34, q35, q36, q37, q38, q39, q40, q41, trivial⟩
    clear hall hsame q28 q29 q30 q31 q32 q33 q34 q35 q36 q37 q38 q39 q40 q41
    simp only [List.foldl, List.setIfInBounds_toArray, List.set_cons_succ, List.set_cons_zero]
    have hb6 := hsn.below (B := W1.heap.size) (fun _ _ => rfl) (Nat.le_refl _)
    have M6 := Bx.mk (M1.out.below hb6)
    have K6 := Bx.mk (K1.out.trans (Keep.of_below hb6 (fun k => k = rc)) (fun _ _ h => h))
    have SZ6 := Bx.mk (show w.heap.size ≤ u6.heap.size from K6.out.size)
    clear hb6 hsn SZ
    have SZ := SZ6
    clear SZ6
    go_wp2_with fail
    refine (first13_any base u6 rc most (es.eraseIdx t) _ M6.out (Nat.le_trans HBS.out SZ.out) (LE.out) k x).mono ?_
    rintro e w2 ⟨rfl, L2, hM2, hk2, hf2⟩
    have FIN : Bx (RPutR base w rc most es k x (.returned (.tuple #[.int .i64 0, .bool false])) w2) := ⟨.inl ⟨t, TE.out, HKE.out, rfl, L2, hM2, K6.out.trans hk2 (fun _ _ h => h), fun j hj => Nat.le_trans SZ.out (hf2 j hj)⟩⟩
    clear hM2 hk2 hf2
    go_wp2_with fail
    go_ret2
    exact FIN.out
end Go.Proofs.YtdepmjgibenejaaGreatDoor
