/- cartularylaw06.CoordCovers walked. -/
import Derived.Test.YtifnmidecjmmnaaGreatDoorCcR
import Derived.Test.YtifnmidecjmmnaaGreatDoorErrC
import Derived.Test.YtifnmidecjmmnaaGreatDoorCoH
import Derived.Test.YtifnmidecjmmnaaGreatDoorErrD
import Derived.Test.YtifnmidecjmmnaaGreatDoorBkCoordK
import Derived.Test.YtifnmidecjmmnaaGreatDoorBkCoordJ
namespace Go.Proofs.YtifnmidecjmmnaaGreatDoor
set_option maxRecDepth 100000
open Go.RowKit
set_option maxHeartbeats 1600000 in
theorem cover_bad (A : Nat → Addr) (w : World) (B E : Nat) (hbad : E < B ∨ 9223372036854775808 < E) (hE : Errs w A) :
    Calls Tryz.prog 5 #[sv B E] w fun e w' => e = .returned (.tuple #[.slice none 0 0, .iface 229 (.pointer (some (A 4)))]) ∧ Below w.heap.size w w' := by
  have k0 := below_new w (.cells #[.int .u64 (B : Int), .int .u64 (E : Int)] 24)
  have h0 := heap_alloc_new w (.cells #[.int .u64 (B : Int), .int .u64 (E : Int)] 24)
  have hg := (hE.below k0).glob 4 (by decide)
  obtain ⟨a1, a2, a3, a4⟩ := two_cells h0
  have K0 := Bx.mk k0
  unfold sv
  clear k0 h0 hE
  go_enter Tryz.func5, Tryz.ntmps5
  go_upto_region 1 with (fail)
  change Code.wp _ _ _ _ (w.alloc (.cells #[.int .u64 (B : Int), .int .u64 (E : Int)] 24))
  generalize w.alloc (.cells #[.int .u64 (B : Int), .int .u64 (E : Int)] 24) = W at a1 a2 a3 a4 hg K0 ⊢
  rw [show eg 4 = 0 from rfl] at hg
  have ends : ∀ k, Below w.heap.size w (W.drewN k) := fun k => below_drewN K0.out k
  have ENDS := Bx.mk ends
  clear ends
  by_cases c1 : (E : Int) < (B : Int)
  · clear hbad
    go_wp2_with fail
    go_quiet (fail)
    go_wp2_with fail
    go_ret2
    exact ⟨rfl, ENDS.out _⟩
  · have c2 : (9223372036854775808 : Int) < (E : Int) := by omega
    clear hbad
    go_wp2_with fail
    go_quiet (fail)
    go_wp2_with fail
    go_ret2
    exact ⟨rfl, ENDS.out _⟩
theorem bcoords_any (base : Nat) (w : World) (b n : Nat) (l : Nat → Value) (m : Nat) (xs : List Value) (hB : BkP w b (n : Int) l) (hO : w.ownsRow base 77 3 (l 6) m xs) (hm : m ≤ 100000000) (hn : n ≤ 100000000) (hne : ∀ j, (l 6).ownBlock = some j → j ≠ b) (hbase : base ≤ w.heap.size) (va : Option Addr) (vn vc : Nat) :
    Calls Tryz.prog 8 #[.pointer (some ⟨b, 0, none⟩), .slice va vn vc] w fun e w' => e = .returned (.tuple #[]) ∧ ∃ x, BkP w' b ((n + 1 : Nat) : Int) (updK l 6 x) ∧ w'.ownsRow base 77 3 x (m + 1) (xs ++ hdcCoord (.slice va vn vc, .slice none 0 0, ((n + 1 : Nat) : Int))) ∧ Keep (fun k => k = b ∨ (l 6).ownBlock = some k) w w' ∧ ∀ k, x.ownBlock = some k → k ≠ b ∧ ((l 6).ownBlock = some k ∨ w.heap.size ≤ k) := by
  have C := Bx.mk (keepCoord_any base w b n l m xs hB hO hm hn hne hbase va vn vc)
  clear hB hO hm hn hne hbase
  go_enter Tryz.func8, Tryz.ntmps8
  go_wp2_with fail
  refine C.out.mono ?_
  rintro e w1 ⟨rfl, h⟩
  have H := Bx.mk h; clear h
  go_wp2_with fail
  go_end0
  exact ⟨rfl, H.out⟩
theorem cover17 : coverN 1 7 = [(0, 1), (1, 1), (1, 2), (0, 6)] := by
  have l1 : lvl 1 7 = 0 := by decide +kernel
  have l2 : lvl 2 7 = 1 := by decide +kernel
  have l3 : lvl 4 7 = 1 := by decide +kernel
  have l4 : lvl 6 7 = 0 := by decide +kernel
  rw [coverN_cons (by decide), l1, coverN_cons (by decide), l2, coverN_cons (by decide), l3, coverN_cons (by decide), l4, coverN_nil (by decide)]
def threeV (a b c : Value) : Nat → Value := fun i => if i = 0 then a else if i = 1 then b else c
def threeN (a b c : Nat) : Nat → Nat := fun i => if i = 0 then a else if i = 1 then b else c
def threeX (a b c : List Value) : Nat → List Value := fun i => if i = 0 then a else if i = 1 then b else c
theorem three_cases {i : Nat} (h : i < 3) : i = 0 ∨ i = 1 ∨ i = 2 := by omega
theorem hdRow3 (a b c : Value) : hdRow (threeV a b c) (fun _ => .slice none 0 0) (fun i => i + 1) 3 = [a, .slice none 0 0, .int .i64 1, b, .slice none 0 0, .int .i64 2, c, .slice none 0 0, .int .i64 3] := rfl
/-- the end of the law: three lists kept, told apart, and the document's trees -/
theorem covers_end (w u : World) (N : Nat) (hN : N = w.heap.size) (hT : TabZ w) (hg : 1 < w.heap.size) (hb : Below N w u) (va vb vc : Value) (na nb nc : Nat) (xa xb xc : List Value) (s1 s2 : Nat)
    (ha : u.ownsRow N 59 2 va na xa) (hbv : u.ownsRow N 59 2 vb nb xb) (hc : u.ownsRow N 59 2 vc nc xc) (h1 : ∀ j, va.ownBlock = some j → j < s1) (h2 : ∀ j, vb.ownBlock = some j → s1 ≤ j ∧ j < s2) (h3 : ∀ j, vc.ownBlock = some j → s2 ≤ j) (h12 : s1 ≤ s2)
    (hl : na ≤ 100000000 ∧ nb ≤ 100000000 ∧ nc ≤ 100000000) (b : Nat) (l : Nat → Value) (hB : BkP u b (3 : Int) l) (hR : u.ownsRow N 77 3 (l 6) 3 [va, .slice none 0 0, .int .i64 1, vb, .slice none 0 0, .int .i64 2, vc, .slice none 0 0, .int .i64 3]) (hz : ∀ i, i ≠ 6 → l i = .slice none 0 0)
    (hnb : ∀ j, (va.ownBlock = some j ∨ vb.ownBlock = some j ∨ vc.ownBlock = some j) → j ≠ b ∧ (l 6).ownBlock ≠ some j) :
    Calls Tryz.prog 9 #[.pointer (some ⟨b, 0, none⟩)] u fun e w' => e = .returned (.bool true) ∧ Below N w w' ∧ Calls Tryz.prog 10 #[] w' fun e w'' => e = .returned (.bool true) ∧ Below N w w'' := by
  have hL : BkL 6 77 59 2 N u b 3 l 3 (threeV va vb vc) (threeN na nb nc) (threeX xa xb xc) (fun _ => .slice none 0 0) (fun i => i + 1) := by
    refine ⟨hB, by rw [hdRow3]; exact hR, fun i hi => ?_, fun i hi j hj hij k e1 e2 => ?_, fun i hi k e => ?_, fun i _ => ⟨none, 0, 0, rfl⟩, by decide⟩
    · rcases three_cases hi with rfl | rfl | rfl
      · exact ha
      · exact hbv
      · exact hc
    · rcases three_cases hi with rfl | rfl | rfl <;> rcases three_cases hj with rfl | rfl | rfl
      · exact hij rfl
      · have := h1 k e1; have := h2 k e2; omega
      · have := h1 k e1; have := h3 k e2; omega
      · have := h2 k e1; have := h1 k e2; omega
      · exact hij rfl
      · have := h2 k e1; have := h3 k e2; omega
      · have := h3 k e1; have := h1 k e2; omega
      · have := h3 k e1; have := h2 k e2; omega
      · exact hij rfl
    · rcases three_cases hi with rfl | rfl | rfl
      · exact hnb k (.inl e)
      · exact hnb k (.inr (.inl e))
      · exact hnb k (.inr (.inr e))
  refine (apartCoord_any N u b 3 l 3 (threeV va vb vc) (threeN na nb nc) (threeX xa xb xc) (fun _ => .slice none 0 0) (fun i => i + 1) hL hz (by rw [hN]; exact Nat.le_trans (by omega) hb.size) (by decide) (fun i hi => by rcases three_cases hi with rfl | rfl | rfl <;> exact ⟨by first | exact hl.1 | exact hl.2.1 | exact hl.2.2, by decide⟩)).mono ?_
  rintro e w' ⟨rfl, hk⟩
  have hbl : Below N w w' := hb.trans (hk.below (B := N) (by rw [hN]; exact hb.size) (fun k hk => by
    rcases hk with ⟨i, hi, e⟩ | e
    · exact (own_ltC (hL.li i hi) k e).1
    · exact (own_ltC hL.row k e).1))
  refine ⟨rfl, hbl, ?_⟩
  rw [hN] at hbl ⊢
  refine (alive_any w' (hT.below hg hbl) (Nat.lt_of_lt_of_le hg hbl.size)).mono ?_
  rintro e w'' ⟨rfl, h⟩
  exact ⟨rfl, hbl.trans (h.mono hbl.size)⟩
set_option maxHeartbeats 6400000 in
theorem covers_any (A : Nat → Addr) (w : World) (B E : Nat) (hB : B < 18446744073709551616) (hE : E < 18446744073709551616) (hT : TabZ w) (hg : 1 < w.heap.size) (hErr : Errs w A) :
    Calls Tryz.prog 3 #[sv B E] w fun e w' => e = .returned (.bool true) ∧ Below w.heap.size w w' := by
  obtain ⟨N, hN⟩ : ∃ N, N = w.heap.size := ⟨_, rfl⟩
  have k0 : Below N w (w.alloc (.cells #[.int .u64 (B : Int), .int .u64 (E : Int)] 24)) := by rw [hN]; exact below_new _ _
  have m0 : At (w.alloc (.cells #[.int .u64 (B : Int), .int .u64 (E : Int)] 24)) N 24 (.int .u64 (B : Int)) (.int .u64 (E : Int)) := by rw [hN]; exact At.new _ _ _ _
  have hs : (w.alloc (.cells #[.int .u64 (B : Int), .int .u64 (E : Int)] 24)).heap.size = N + 1 := by rw [hN]; simp
  have HN := Bx.mk hN; have HT := Bx.mk hT; have HG := Bx.mk hg; have HE := Bx.mk hErr; have HB := Bx.mk hB; have HEE := Bx.mk hE
  obtain ⟨a1, a2, a3, a4⟩ := m0.cells
  -- the answers of the program and of the document, alike in both ways
  have tb : ∀ u, Below N w u → TabZ u ∧ 1 < u.heap.size ∧ Errs u A := fun u hu => by
    rw [HN.out] at hu
    exact ⟨HT.out.below HG.out hu, Nat.lt_of_lt_of_le HG.out hu.size, HE.out.below hu⟩
  obtain ⟨L, fl, er, hcr, hcc, hsm⟩ : ∃ (L : List (Nat × Nat)) (fl er : Value), (∃ c a : Int, fl = .agg #[.int .i64 c, .int .i64 a]) ∧
      ((∀ u, Below N w u → Calls Tryz.prog 4 #[sv B E] u fun e w' => ∃ v, e = .returned (.tuple #[v, fl]) ∧ CoverR u w' v L) ∧
       (∀ u, Below N w u → Calls Tryz.prog 5 #[sv B E] u fun e w' => ∃ v, e = .returned (.tuple #[v, er]) ∧ CoverR u w' v L)) ∧
      ((∀ u, Below N w u → Calls Tryz.prog 6 #[er, fl] u fun e w' => e = .returned (.bool true) ∧ Below u.heap.size u w') ∧ L.length ≤ 128) := by
    by_cases hm : B ≤ E ∧ E ≤ 2 ^ 63
    · refine ⟨coverN B E, .agg #[.int .i64 0, .int .i64 0], .nilIface, ⟨0, 0, rfl⟩, ⟨fun u _ => rcover_any u B E hm.1 hm.2, fun u hu => cover_any u B E hm.1 hm.2 (tb u hu).1 (tb u hu).2.1⟩, fun u hu => ?_, cover_le hm.2⟩
      have h := same_err (tb u hu).2.2 ErrV.no 0 0
      exact h
    · have hbad : E < B ∨ 9223372036854775808 < E := by omega
      have cr : ∀ u w', Below u.heap.size u w' → CoverR u w' (.slice none 0 0) [] := fun u w' h => ⟨World.ownsRow_nil _ _ _ _, h⟩
      refine ⟨[], .agg #[.int .i64 5, .int .i64 (-1)], .iface 229 (.pointer (some (A 4))), ⟨5, -1, rfl⟩, ⟨fun u _ => (rcover_bad u B E hbad).mono fun e w' h => ⟨_, h.1, cr u w' h.2⟩, fun u hu => (cover_bad A u B E hbad (tb u hu).2.2).mono fun e w' h => ⟨_, h.1, cr u w' h.2⟩⟩, fun u hu => ?_, by simp⟩
      have h := same_err (tb u hu).2.2 (ErrV.plain 4 (by decide)) 5 (-1)
      exact h
  obtain ⟨⟨fc, fa, rfl⟩, hcr, hcc, hsm, hlen⟩ := And.intro hcr (And.intro hcc.1 (And.intro hcc.2 hsm))
  have CR := Bx.mk hcr; have CC := Bx.mk hcc; have SM := Bx.mk hsm; have LL := Bx.mk hlen; have TB := Bx.mk tb
  have SC : Bx (∀ u v v', Coords u v L → Coords u v' L → Calls Tryz.prog 7 #[v, v'] u fun e w' => e = .returned (.bool true) ∧ Below u.heap.size u w') := ⟨fun u v v' h1 h2 => by have h := same_any u v v' L L h1 h2; rw [decide_eq_true rfl] at h; exact h⟩
  have K0 := Bx.mk k0; have M0 := Bx.mk m0; have S0 := Bx.mk (show N ≤ (w.alloc (.cells #[.int .u64 (B : Int), .int .u64 (E : Int)] 24)).heap.size by omega)
  clear hcr hcc hsm hlen k0 m0 hs hT hg hErr hB hE tb
  unfold sv
  go_enter Tryz.func3, Tryz.ntmps3
  go_upto_region 1 with (fail)
  change Code.wp _ _ _ _ (w.alloc (.cells #[.int .u64 (B : Int), .int .u64 (E : Int)] 24))
  rw [← hN]
  clear hN
  generalize w.alloc (.cells #[.int .u64 (B : Int), .int .u64 (E : Int)] 24) = W0 at K0 M0 S0 a1 a2 a3 a4 ⊢
  go_wp2_with fail
  refine (CR.out _ K0.out).mono ?_
  rintro e w1 ⟨vw, rfl, hR⟩
  have m1 := (M0.out.below hR.below).alloc (.cells #[.int .i64 fc, .int .i64 fa] 27)
  have mF := At.new w1 27 (.int .i64 fc) (.int .i64 fa)
  have b1 := (K0.out.trans (hR.below.mono S0.out)).alloc (Nat.le_trans S0.out hR.below.size) (.cells #[.int .i64 fc, .int .i64 fa] 27)
  have rw1 := own_monoC (own_belowC hR.own (below_new w1 (.cells #[.int .i64 fc, .int .i64 fa] 27))) S0.out
  clear hR a1 a2 a3 a4
  go_upto_region 2 with (fail)
  change Code.wp _ _ _ _ (w1.alloc (.cells #[.int .i64 fc, .int .i64 fa] 27))
  obtain ⟨F, hF⟩ : ∃ F, F = w1.heap.size := ⟨_, rfl⟩
  rw [← hF] at mF ⊢
  clear hF
  generalize w1.alloc (.cells #[.int .i64 fc, .int .i64 fa] 27) = W1 at m1 mF b1 rw1 ⊢
  have M1 := Bx.mk m1; have MF1 := Bx.mk mF; have B1 := Bx.mk b1; have RW1 := Bx.mk rw1
  have S1 := Bx.mk (show N ≤ W1.heap.size by have h := M1.out.lt; omega)
  obtain ⟨a1, a2, a3, a4⟩ := m1.cells
  clear m1 mF b1 rw1

  go_wp2_with fail
  refine (CC.out W1 B1.out).mono ?_
  rintro e W2 ⟨va, rfl, hR⟩
  have M2 := Bx.mk (M1.out.below hR.below); have MF2 := Bx.mk (MF1.out.below hR.below); have B2 := Bx.mk (B1.out.trans (hR.below.mono S1.out)); have S2 := Bx.mk (Nat.le_trans S1.out hR.below.size)
  have Z2 := Bx.mk hR.below.size
  have RW2 := Bx.mk (own_belowC RW1.out hR.below)
  have hq := hR.own
  have RA2 := Bx.mk (own_monoC hq S1.out)
  have LRA := Bx.mk (fun j (hj : (va : Value).ownBlock = some j) => own_ltC hq j hj)
  obtain ⟨a1, a2, a3, a4⟩ := M2.out.cells
  clear hR hq 
  go_wp2_with fail
  refine (cover_any W2 1 7 (by decide) (by decide) (TB.out _ B2.out).1 (TB.out _ B2.out).2.1).mono ?_
  rintro e W3 ⟨vb, rfl, hR⟩
  have M3 := Bx.mk (M2.out.below hR.below); have MF3 := Bx.mk (MF2.out.below hR.below); have B3 := Bx.mk (B2.out.trans (hR.below.mono S2.out)); have S3 := Bx.mk (Nat.le_trans S2.out hR.below.size)
  have Z3 := Bx.mk hR.below.size
  have RW3 := Bx.mk (own_belowC RW2.out hR.below)
  have RA3 := Bx.mk (own_belowC RA2.out hR.below)
  have hq := hR.own
  rw [cover17] at hq
  have hq : W3.ownsRow W2.heap.size 59 2 vb 4 (ccells [(0, 1), (1, 1), (1, 2), (0, 6)]) := hq
  have RB3 := Bx.mk (own_monoC hq S2.out)
  have LRB := Bx.mk (fun j (hj : (vb : Value).ownBlock = some j) => own_ltC hq j hj)
  obtain ⟨a1, a2, a3, a4⟩ := M3.out.cells
  clear hR hq 
  go_wp2_with fail
  refine (CC.out W3 B3.out).mono ?_
  rintro e W4 ⟨vc, rfl, hR⟩
  have M4 := Bx.mk (M3.out.below hR.below); have MF4 := Bx.mk (MF3.out.below hR.below); have B4 := Bx.mk (B3.out.trans (hR.below.mono S3.out)); have S4 := Bx.mk (Nat.le_trans S3.out hR.below.size)
  have Z4 := Bx.mk hR.below.size
  have RW4 := Bx.mk (own_belowC RW3.out hR.below)
  have RA4 := Bx.mk (own_belowC RA3.out hR.below)
  have RB4 := Bx.mk (own_belowC RB3.out hR.below)
  have hq := hR.own
  have RC4 := Bx.mk (own_monoC hq S3.out)
  have LRC := Bx.mk (fun j (hj : (vc : Value).ownBlock = some j) => own_ltC hq j hj)
  obtain ⟨a1, a2, a3, a4⟩ := M4.out.cells
  clear hR hq 
  obtain ⟨aa, ca, rfl, -, -, -⟩ := own_shapeK RA4.out
  obtain ⟨ab, cb, rfl, -, -, -⟩ := own_shapeK RB4.out
  obtain ⟨ac, cc, rfl, -, -, -⟩ := own_shapeK RC4.out
  obtain ⟨nL, hnL⟩ : ∃ nL, nL = L.length := ⟨_, rfl⟩
  have HNL := Bx.mk hnL
  rw [← hnL] at RA4 RC4 LRA LRC ⊢
  clear hnL a1 a2 a3 a4
  obtain ⟨f1, f2, f3, f4⟩ := MF4.out.cells
  go_wp2_with fail
  refine (SM.out _ B4.out).mono ?_
  rintro e W5 ⟨rfl, hb⟩
  have MF5 := Bx.mk (MF4.out.below hb); have B5 := Bx.mk (B4.out.trans (hb.mono S4.out)); have S5 := Bx.mk (Nat.le_trans S4.out hb.size); have Z5 := Bx.mk hb.size
  have RW5 := Bx.mk (own_belowC RW4.out hb)
  have RA5 := Bx.mk (own_belowC RA4.out hb)
  have RB5 := Bx.mk (own_belowC RB4.out hb)
  have RC5 := Bx.mk (own_belowC RC4.out hb)
  clear hb f1 f2 f3 f4
  obtain ⟨f1, f2, f3, f4⟩ := MF5.out.cells
  go_wp2_with fail
  refine (SM.out _ B5.out).mono ?_
  rintro e W6 ⟨rfl, hb⟩
  have B6 := Bx.mk (B5.out.trans (hb.mono S5.out)); have S6 := Bx.mk (Nat.le_trans S5.out hb.size); have Z6 := Bx.mk hb.size
  have RW6 := Bx.mk (own_belowC RW5.out hb)
  have RA6 := Bx.mk (own_belowC RA5.out hb)
  have RB6 := Bx.mk (own_belowC RB5.out hb)
  have RC6 := Bx.mk (own_belowC RC5.out hb)
  clear hb f1 f2 f3 f4
  have ha6 := RA6.out; have hc6 := RC6.out
  rw [HNL.out] at ha6 hc6
  have CA := Bx.mk (SC.out W6 _ _ (coords_own ha6) (coords_own RW6.out))
  clear ha6 hc6
  rw [← HNL.out] at CA
  go_wp2_with fail
  refine CA.out.mono ?_
  rintro e W7 ⟨rfl, hb⟩
  have B7 := Bx.mk (B6.out.trans (hb.mono S6.out)); have S7 := Bx.mk (Nat.le_trans S6.out hb.size); have Z7 := Bx.mk hb.size
  have RW7 := Bx.mk (own_belowC RW6.out hb)
  have RA7 := Bx.mk (own_belowC RA6.out hb)
  have RB7 := Bx.mk (own_belowC RB6.out hb)
  have RC7 := Bx.mk (own_belowC RC6.out hb)
  have hc7 := RC7.out
  rw [HNL.out] at hc7
  have CA := Bx.mk (SC.out W7 _ _ (coords_own hc7) (coords_own RW7.out))
  rw [← HNL.out] at CA
  clear hb hc7
  go_wp2_with fail
  refine CA.out.mono ?_
  rintro e W8 ⟨rfl, hb⟩
  have B8 := Bx.mk (B7.out.trans (hb.mono S7.out)); have S8 := Bx.mk (Nat.le_trans S7.out hb.size); have Z8 := Bx.mk hb.size
  have RW8 := Bx.mk (own_belowC RW7.out hb)
  have RA8 := Bx.mk (own_belowC RA7.out hb)
  have RB8 := Bx.mk (own_belowC RB7.out hb)
  have RC8 := Bx.mk (own_belowC RC7.out hb)
  clear hb CA
  have b9 := B8.out.alloc S8.out (.cells #[.int .i64 0, .slice none 0 0, .slice none 0 0, .slice none 0 0, .slice none 0 0, .slice none 0 0, .slice none 0 0, .slice none 0 0, .slice none 0 0, .slice none 0 0, .slice none 0 0, .slice none 0 0, .slice none 0 0, .slice none 0 0, .slice none 0 0, .slice none 0 0, .slice none 0 0] 53)
  have k9 := below_new W8 (.cells #[.int .i64 0, .slice none 0 0, .slice none 0 0, .slice none 0 0, .slice none 0 0, .slice none 0 0, .slice none 0 0, .slice none 0 0, .slice none 0 0, .slice none 0 0, .slice none 0 0, .slice none 0 0, .slice none 0 0, .slice none 0 0, .slice none 0 0, .slice none 0 0, .slice none 0 0] 53)
  have p9 := heap_alloc_new W8 (.cells #[.int .i64 0, .slice none 0 0, .slice none 0 0, .slice none 0 0, .slice none 0 0, .slice none 0 0, .slice none 0 0, .slice none 0 0, .slice none 0 0, .slice none 0 0, .slice none 0 0, .slice none 0 0, .slice none 0 0, .slice none 0 0, .slice none 0 0, .slice none 0 0, .slice none 0 0] 53)
  go_upto_region 8 with (fail)
  change Code.wp _ _ _ _ (W8.alloc (.cells #[.int .i64 0, .slice none 0 0, .slice none 0 0, .slice none 0 0, .slice none 0 0, .slice none 0 0, .slice none 0 0, .slice none 0 0, .slice none 0 0, .slice none 0 0, .slice none 0 0, .slice none 0 0, .slice none 0 0, .slice none 0 0, .slice none 0 0, .slice none 0 0, .slice none 0 0] 53))
  obtain ⟨b, hbk⟩ : ∃ b, b = W8.heap.size := ⟨_, rfl⟩
  rw [← hbk] at p9 ⊢
  generalize W8.alloc (.cells #[.int .i64 0, .slice none 0 0, .slice none 0 0, .slice none 0 0, .slice none 0 0, .slice none 0 0, .slice none 0 0, .slice none 0 0, .slice none 0 0, .slice none 0 0, .slice none 0 0, .slice none 0 0, .slice none 0 0, .slice none 0 0, .slice none 0 0, .slice none 0 0, .slice none 0 0] 53) = W9 at b9 k9 p9 ⊢
  have BK := Bx.mk hbk
  have B9 := Bx.mk b9; have S9 := Bx.mk (Nat.le_trans S8.out k9.size)
  have RA9 := Bx.mk (own_belowC RA8.out k9)
  have RB9 := Bx.mk (own_belowC RB8.out k9)
  have RC9 := Bx.mk (own_belowC RC8.out k9)
  have P9 : Bx (BkP W9 b ((0 : Nat) : Int) (fun _ => .slice none 0 0)) := ⟨⟨p9⟩⟩
  have BL9 := Bx.mk (Array.getElem?_eq_some_iff.1 p9).1
  clear b9 k9 p9 hbk

  go_wp2_with fail
  refine (bcoords_any N W9 b 0 (fun _ => .slice none 0 0) 0 [] P9.out (show W9.ownsRow N 77 3 ((fun _ => .slice none 0 0 : Nat → Value) 6) 0 [] from World.ownsRow_nil _ _ _ _) (by decide) (by decide) (fun j hj => by cases hj) S9.out aa nL ca).mono ?_
  rintro e W10 ⟨rfl, x10, hP, hO, hk, hx⟩
  have S10 := Bx.mk (Nat.le_trans S9.out hk.size)
  have KL10 := Bx.mk (hk.below (B := N) S9.out (fun k hk => by
    rcases hk with rfl | e
    · have h1 := BK.out; have h2 := S8.out; omega
    · cases e))
  have B10 := Bx.mk (B9.out.trans KL10.out)
  have RA10 := Bx.mk (ownsRow_keep' RA9.out fun j hj => hk.block j (ownsRow_lt RA9.out j hj) (fun e => by
    have hlt := (own_ltC RA8.out j hj).2
    rcases e with e | e
    · have h1 := BK.out; omega
    · cases e))
  have RB10 := Bx.mk (ownsRow_keep' RB9.out fun j hj => hk.block j (ownsRow_lt RB9.out j hj) (fun e => by
    have hlt := (own_ltC RB8.out j hj).2
    rcases e with e | e
    · have h1 := BK.out; omega
    · cases e))
  have RC10 := Bx.mk (ownsRow_keep' RC9.out fun j hj => hk.block j (ownsRow_lt RC9.out j hj) (fun e => by
    have hlt := (own_ltC RC8.out j hj).2
    rcases e with e | e
    · have h1 := BK.out; omega
    · cases e))
  obtain ⟨l10, hl10⟩ : ∃ l', l' = updK (fun _ => .slice none 0 0) 6 x10 := ⟨_, rfl⟩
  rw [← hl10] at hP
  have l6 : l10 6 = x10 := by rw [hl10]; rfl
  have Y10 : Bx (∀ i, i ≠ 6 → l10 i = .slice none 0 0) := ⟨fun i hi => by rw [hl10]; unfold updK; rw [if_neg hi]⟩
  rw [← l6] at hO hx
  obtain ⟨xs10, hxs10⟩ : ∃ xs, xs = [] ++ hdcCoord (.slice aa nL ca, .slice none 0 0, ((0 + 1 : Nat) : Int)) := ⟨_, rfl⟩
  rw [← hxs10] at hO
  have HX10 := Bx.mk hxs10
  have P10 := Bx.mk hP; have O10 := Bx.mk hO
  have X10 := Bx.mk (fun k hk => And.intro (hx k hk).1 (show W8.heap.size < k by
    rcases (hx k hk).2 with h | h
    · cases h
    · have h1 := BK.out; have h2 := BL9.out; omega))
  have KS10 := Bx.mk (Nat.le_trans (Nat.le_refl W9.heap.size) hk.size)
  clear hP hO hk hx l6 hl10 hxs10
  go_wp2_with fail
  refine (bcoords_any N W10 b 1 l10 1 xs10 P10.out O10.out (by decide) (by decide) (fun j hj => (X10.out j hj).1) S10.out ab 4 cb).mono ?_
  rintro e W11 ⟨rfl, x11, hP, hO, hk, hx⟩
  have S11 := Bx.mk (Nat.le_trans S10.out hk.size)
  have KL11 := Bx.mk (hk.below (B := N) S10.out (fun k hk => by
    rcases hk with rfl | e
    · have h1 := BK.out; have h2 := S8.out; omega
    · exact (own_ltC O10.out k e).1))
  have B11 := Bx.mk (B10.out.trans KL11.out)
  have RA11 := Bx.mk (ownsRow_keep' RA10.out fun j hj => hk.block j (ownsRow_lt RA10.out j hj) (fun e => by
    have hlt := (own_ltC RA8.out j hj).2
    rcases e with e | e
    · have h1 := BK.out; omega
    · have := (X10.out j e).2; omega))
  have RB11 := Bx.mk (ownsRow_keep' RB10.out fun j hj => hk.block j (ownsRow_lt RB10.out j hj) (fun e => by
    have hlt := (own_ltC RB8.out j hj).2
    rcases e with e | e
    · have h1 := BK.out; omega
    · have := (X10.out j e).2; omega))
  have RC11 := Bx.mk (ownsRow_keep' RC10.out fun j hj => hk.block j (ownsRow_lt RC10.out j hj) (fun e => by
    have hlt := (own_ltC RC8.out j hj).2
    rcases e with e | e
    · have h1 := BK.out; omega
    · have := (X10.out j e).2; omega))
  obtain ⟨l11, hl11⟩ : ∃ l', l' = updK l10 6 x11 := ⟨_, rfl⟩
  rw [← hl11] at hP
  have l6 : l11 6 = x11 := by rw [hl11]; rfl
  have Y11 : Bx (∀ i, i ≠ 6 → l11 i = .slice none 0 0) := ⟨fun i hi => by rw [hl11]; unfold updK; rw [if_neg hi]; exact Y10.out i hi⟩
  rw [← l6] at hO hx
  obtain ⟨xs11, hxs11⟩ : ∃ xs, xs = xs10 ++ hdcCoord (.slice ab 4 cb, .slice none 0 0, ((1 + 1 : Nat) : Int)) := ⟨_, rfl⟩
  rw [← hxs11] at hO
  have HX11 := Bx.mk hxs11
  have P11 := Bx.mk hP; have O11 := Bx.mk hO
  have X11 := Bx.mk (fun k hk => And.intro (hx k hk).1 (show W8.heap.size < k by
    rcases (hx k hk).2 with h | h
    · exact (X10.out k h).2
    · have h1 := BK.out; have h2 := BL9.out; have h3 := KS10.out; omega))
  have KS11 := Bx.mk (Nat.le_trans KS10.out hk.size)
  clear hP hO hk hx l6 hl11 hxs11
  go_wp2_with fail
  refine (bcoords_any N W11 b 2 l11 2 xs11 P11.out O11.out (by decide) (by decide) (fun j hj => (X11.out j hj).1) S11.out ac nL cc).mono ?_
  rintro e W12 ⟨rfl, x12, hP, hO, hk, hx⟩
  have S12 := Bx.mk (Nat.le_trans S11.out hk.size)
  have KL12 := Bx.mk (hk.below (B := N) S11.out (fun k hk => by
    rcases hk with rfl | e
    · have h1 := BK.out; have h2 := S8.out; omega
    · exact (own_ltC O11.out k e).1))
  have B12 := Bx.mk (B11.out.trans KL12.out)
  have RA12 := Bx.mk (ownsRow_keep' RA11.out fun j hj => hk.block j (ownsRow_lt RA11.out j hj) (fun e => by
    have hlt := (own_ltC RA8.out j hj).2
    rcases e with e | e
    · have h1 := BK.out; omega
    · have := (X11.out j e).2; omega))
  have RB12 := Bx.mk (ownsRow_keep' RB11.out fun j hj => hk.block j (ownsRow_lt RB11.out j hj) (fun e => by
    have hlt := (own_ltC RB8.out j hj).2
    rcases e with e | e
    · have h1 := BK.out; omega
    · have := (X11.out j e).2; omega))
  have RC12 := Bx.mk (ownsRow_keep' RC11.out fun j hj => hk.block j (ownsRow_lt RC11.out j hj) (fun e => by
    have hlt := (own_ltC RC8.out j hj).2
    rcases e with e | e
    · have h1 := BK.out; omega
    · have := (X11.out j e).2; omega))
  obtain ⟨l12, hl12⟩ : ∃ l', l' = updK l11 6 x12 := ⟨_, rfl⟩
  rw [← hl12] at hP
  have l6 : l12 6 = x12 := by rw [hl12]; rfl
  have Y12 : Bx (∀ i, i ≠ 6 → l12 i = .slice none 0 0) := ⟨fun i hi => by rw [hl12]; unfold updK; rw [if_neg hi]; exact Y11.out i hi⟩
  rw [← l6] at hO hx
  obtain ⟨xs12, hxs12⟩ : ∃ xs, xs = xs11 ++ hdcCoord (.slice ac nL cc, .slice none 0 0, ((2 + 1 : Nat) : Int)) := ⟨_, rfl⟩
  rw [← hxs12] at hO
  have HX12 := Bx.mk hxs12
  have P12 := Bx.mk hP; have O12 := Bx.mk hO
  have X12 := Bx.mk (fun k hk => And.intro (hx k hk).1 (show W8.heap.size < k by
    rcases (hx k hk).2 with h | h
    · exact (X11.out k h).2
    · have h1 := BK.out; have h2 := BL9.out; have h3 := KS11.out; omega))
  have KS12 := Bx.mk (Nat.le_trans KS11.out hk.size)
  clear hP hO hk hx l6 hl12 hxs12
  have hrow : xs12 = [.slice aa nL ca, .slice none 0 0, .int .i64 1, .slice ab 4 cb, .slice none 0 0, .int .i64 2, .slice ac nL cc, .slice none 0 0, .int .i64 3] := by rw [HX12.out, HX11.out, HX10.out]; rfl
  have ho := O12.out
  rw [hrow] at ho
  have nn : nL ≤ 100000000 := by have := LL.out; have := HNL.out; omega
  have CE := covers_end w W12 N HN.out HT.out HG.out B12.out (.slice aa nL ca) (.slice ab 4 cb) (.slice ac nL cc) nL 4 nL _ _ _ W2.heap.size W3.heap.size RA12.out RB12.out RC12.out
    (fun j hj => (LRA.out j hj).2) (fun j hj => ⟨(LRB.out j hj).1, (LRB.out j hj).2⟩) (fun j hj => (LRC.out j hj).1) Z3.out ⟨nn, by decide, nn⟩ b l12 P12.out ho Y12.out
    (fun j hj => by
      have hlt : j < W8.heap.size := by
        rcases hj with hj | hj | hj
        · exact (own_ltC RA8.out j hj).2
        · exact (own_ltC RB8.out j hj).2
        · exact (own_ltC RC8.out j hj).2
      have h1 := BK.out
      exact ⟨by omega, fun e => by have := (X12.out j e).2; omega⟩)
  have CE := Bx.mk CE
  clear ho hrow nn
  go_wp2_with fail
  refine CE.out.mono ?_
  rintro e W13 ⟨rfl, -, hal⟩
  have AL := Bx.mk hal
  clear hal
  go_wp2_with fail
  refine AL.out.mono ?_
  rintro e W14 ⟨rfl, hb⟩
  have HB' := Bx.mk hb
  clear hb
  go_wp2_with fail
  go_ret
  exact ⟨rfl, by rw [← HN.out]; exact HB'.out⟩
end Go.Proofs.YtifnmidecjmmnaaGreatDoor
