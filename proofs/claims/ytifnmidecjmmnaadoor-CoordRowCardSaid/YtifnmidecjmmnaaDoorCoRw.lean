/- cartularylaw06.CoordRow walked. -/
import Derived.Test.YtifnmidecjmmnaaDoorCoH
import Derived.Test.YtifnmidecjmmnaaDoorCoRp
import Derived.Test.YtifnmidecjmmnaaDoorErrC
import Derived.Test.YtifnmidecjmmnaaDoorInvU
import Derived.Test.YtifnmidecjmmnaaDoorOwn
import Derived.Deep.MidRow
import Derived.IntWalk
namespace Go.Proofs.YtifnmidecjmmnaaDoor
set_option maxRecDepth 100000
open Go.RowKit
set_option maxHeartbeats 1600000 in
theorem cover_bad (A : Nat → Addr) (w : World) (B E : Nat) (hbad : E < B ∨ 9223372036854775808 < E) (hE : Errs w A) :
    Calls Tryd.prog 15 #[sv B E] w fun e w' => e = .returned (.tuple #[.slice none 0 0, .iface 99 (.pointer (some (A 4)))]) ∧ Below w.heap.size w w' := by
  have k0 := below_new w (.cells #[.int .u64 (B : Int), .int .u64 (E : Int)] 36)
  have h0 := heap_alloc_new w (.cells #[.int .u64 (B : Int), .int .u64 (E : Int)] 36)
  have hg := (hE.below k0).glob 4 (by decide)
  obtain ⟨a1, a2, a3, a4⟩ := two_cells h0
  have K0 := Bx.mk k0
  unfold sv
  clear k0 h0 hE
  go_enter Tryd.func15, Tryd.ntmps15
  go_upto_region 1 with (fail)
  change Code.wp _ _ _ _ (w.alloc (.cells #[.int .u64 (B : Int), .int .u64 (E : Int)] 36))
  generalize w.alloc (.cells #[.int .u64 (B : Int), .int .u64 (E : Int)] 36) = W at a1 a2 a3 a4 hg K0 ⊢
  rw [show eg 4 = 0 from rfl] at hg
  have ends : ∀ k, Below w.heap.size w (W.drewN k) := fun k => below_drewN K0.out k
  have ENDS := Bx.mk ends
  clear ends
  by_cases c1 : (E : Int) < (B : Int)
  · clear hbad
    go_wp2_with fail
    go_quiet (fail)
    go_wp2_with fail
    go_ret2
    exact ⟨rfl, ENDS.out _⟩
  · have c2 : (9223372036854775808 : Int) < (E : Int) := by omega
    clear hbad
    go_wp2_with fail
    go_quiet (fail)
    go_wp2_with fail
    go_ret2
    exact ⟨rfl, ENDS.out _⟩
theorem shows_mid {P : Program} {Q : Exit → Act → World → Prop} {V : Nat → Value → World → Prop} {o : Oper} {a : Act} {w : World} {d' : Nat} (hdst : o.dst = some d') (ty : TypeId) (x : Operand) (ho : o.op = .load ty x)
    (g q : Nat) (hx : a.eval x = .pointer (some ⟨g, q, none⟩)) (cs : List Value) {d : TypeDesc} (hg : w.rangeAt g q cs)
    (hu : P.underlying ty = some d) (hd : d.isRow = true) (hi : (P.info? ty).map (·.size) = some cs.length) (hv : V d' (.agg cs.toArray) w) : Shows P Q V o a w := by
  intro K hK
  exact wp_load_mid ty x ho g q hx cs d hg hu hd hi (hK _ _ (fun d'' h => by rw [hdst] at h; cases h; exact hv) (Below.refl _ _))
def VR17A (g off n cap j _n10 _q1 _q2 x1 x2 y1 y2 : Nat) (sl : Nat) (v : Value) (_w : World) : Prop :=
  match sl with
  | 83 => v = .bool false
  | 84 => v = .bool false
  | 85 => v = undef
  | 86 => v = undef
  | 87 => v = undef
  | 88 => v = undef
  | 89 => v = undef
  | 90 => v = undef
  | 91 => v = .bool false
  | 92 => v = .bool false
  | 93 => v = undef
  | 94 => v = undef
  | 95 => v = undef
  | 96 => v = undef
  | 97 => v = undef
  | 98 => v = undef
  | 99 => v = undef
  | 100 => v = undef
  | 101 => v = .bool false
  | 102 => v = .bool false
  | 103 => v = .slice (some ⟨g, off, none⟩) n cap
  | 104 => v = .int .i64 ((j : Int) + 1)
  | 105 => v = .int .i64 (j : Int)
  | 106 => v = .pointer (some ⟨g, off + j * 2, none⟩)
  | 107 => v = .agg #[.int .u8 (x1 : Int), .int .u64 (x2 : Int)]
  | 108 => v = .slice (some ⟨g, off, none⟩) n cap
  | 109 => v = .int .i64 ((j : Int) + 1)
  | 110 => v = .pointer (some ⟨g, off + (j + 1) * 2, none⟩)
  | 111 => v = .agg #[.int .u8 (y1 : Int), .int .u64 (y2 : Int)]
  | 112 => v = .int .i64 (-1)
  | 113 => v = .bool false
  | 114 => v = .bool false
  | _ => True
theorem VR17A_mono (g off n cap j n10 q1 q2 x1 x2 y1 y2 : Nat) (sl : Nat) (v : Value) (w w' : World) (h : VR17A g off n cap j n10 q1 q2 x1 x2 y1 y2 sl v w) (_k : Below w.heap.size w w') : VR17A g off n cap j n10 q1 q2 x1 x2 y1 y2 sl v w' := by
  unfold VR17A at h ⊢
  split at h
  · exact h
  · exact h
  · exact h
  · exact h
  · exact h
  · exact h
  · exact h
  · exact h
  · exact h
  · exact h
  · exact h
  · exact h
  · exact h
  · exact h
  · exact h
  · exact h
  · exact h
  · exact h
  · exact h
  · exact h
  · exact h
  · exact h
  · exact h
  · exact h
  · exact h
  · exact h
  · exact h
  · exact h
  · exact h
  · exact h
  · exact h
  · exact h
  · trivial

def VR17B (g off n cap j _n10 q1 q2 x1 x2 y1 y2 : Nat) (sl : Nat) (v : Value) (_w : World) : Prop :=
  match sl with
  | 83 => v = .bool true
  | 84 => v = .bool true
  | 85 => v = .agg #[.int .u8 (q1 : Int), .int .u64 (q2 : Int)]
  | 86 => v = .slice (some ⟨g, off, none⟩) n cap
  | 87 => v = .int .i64 ((j : Int) + 1)
  | 88 => v = .pointer (some ⟨g, off + (j + 1) * 2, none⟩)
  | 89 => v = .agg #[.int .u8 (y1 : Int), .int .u64 (y2 : Int)]
  | 90 => v = .bool false
  | 91 => v = .bool false
  | 92 => v = .bool false
  | 93 => v = undef
  | 94 => v = undef
  | 95 => v = undef
  | 96 => v = undef
  | 97 => v = undef
  | 98 => v = undef
  | 99 => v = undef
  | 100 => v = undef
  | 101 => v = .bool false
  | 102 => v = .bool false
  | 103 => v = .slice (some ⟨g, off, none⟩) n cap
  | 104 => v = .int .i64 ((j : Int) + 1)
  | 105 => v = .int .i64 (j : Int)
  | 106 => v = .pointer (some ⟨g, off + j * 2, none⟩)
  | 107 => v = .agg #[.int .u8 (x1 : Int), .int .u64 (x2 : Int)]
  | 108 => v = .slice (some ⟨g, off, none⟩) n cap
  | 109 => v = .int .i64 ((j : Int) + 1)
  | 110 => v = .pointer (some ⟨g, off + (j + 1) * 2, none⟩)
  | 111 => v = .agg #[.int .u8 (y1 : Int), .int .u64 (y2 : Int)]
  | 112 => v = .int .i64 (-1)
  | 113 => v = .bool false
  | 114 => v = .bool false
  | _ => True
theorem VR17B_mono (g off n cap j n10 q1 q2 x1 x2 y1 y2 : Nat) (sl : Nat) (v : Value) (w w' : World) (h : VR17B g off n cap j n10 q1 q2 x1 x2 y1 y2 sl v w) (_k : Below w.heap.size w w') : VR17B g off n cap j n10 q1 q2 x1 x2 y1 y2 sl v w' := by
  unfold VR17B at h ⊢
  split at h
  · exact h
  · exact h
  · exact h
  · exact h
  · exact h
  · exact h
  · exact h
  · exact h
  · exact h
  · exact h
  · exact h
  · exact h
  · exact h
  · exact h
  · exact h
  · exact h
  · exact h
  · exact h
  · exact h
  · exact h
  · exact h
  · exact h
  · exact h
  · exact h
  · exact h
  · exact h
  · exact h
  · exact h
  · exact h
  · exact h
  · exact h
  · exact h
  · trivial

def VR17C (g off n cap j _n10 q1 q2 x1 x2 y1 y2 : Nat) (sl : Nat) (v : Value) (_w : World) : Prop :=
  match sl with
  | 83 => v = .bool true
  | 84 => v = .bool true
  | 85 => v = .agg #[.int .u8 (q1 : Int), .int .u64 (q2 : Int)]
  | 86 => v = .slice (some ⟨g, off, none⟩) n cap
  | 87 => v = .int .i64 ((j : Int) + 1)
  | 88 => v = .pointer (some ⟨g, off + (j + 1) * 2, none⟩)
  | 89 => v = .agg #[.int .u8 (y1 : Int), .int .u64 (y2 : Int)]
  | 90 => v = .bool true
  | 91 => v = .bool true
  | 92 => v = .bool true
  | 93 => v = .slice (some ⟨g, off, none⟩) n cap
  | 94 => v = .int .i64 ((j : Int) + 1)
  | 95 => v = .int .i64 (j : Int)
  | 96 => v = .pointer (some ⟨g, off + j * 2, none⟩)
  | 97 => v = .pointer (some ⟨g, off + j * 2 + 1, none⟩)
  | 98 => v = .int .u64 (x2 : Int)
  | 99 => v = .int .u64 1
  | 100 => v = .bool false
  | 101 => v = .bool false
  | 102 => v = .bool false
  | 103 => v = .slice (some ⟨g, off, none⟩) n cap
  | 104 => v = .int .i64 ((j : Int) + 1)
  | 105 => v = .int .i64 (j : Int)
  | 106 => v = .pointer (some ⟨g, off + j * 2, none⟩)
  | 107 => v = .agg #[.int .u8 (x1 : Int), .int .u64 (x2 : Int)]
  | 108 => v = .slice (some ⟨g, off, none⟩) n cap
  | 109 => v = .int .i64 ((j : Int) + 1)
  | 110 => v = .pointer (some ⟨g, off + (j + 1) * 2, none⟩)
  | 111 => v = .agg #[.int .u8 (y1 : Int), .int .u64 (y2 : Int)]
  | 112 => v = .int .i64 (-1)
  | 113 => v = .bool false
  | 114 => v = .bool false
  | _ => True
theorem VR17C_mono (g off n cap j n10 q1 q2 x1 x2 y1 y2 : Nat) (sl : Nat) (v : Value) (w w' : World) (h : VR17C g off n cap j n10 q1 q2 x1 x2 y1 y2 sl v w) (_k : Below w.heap.size w w') : VR17C g off n cap j n10 q1 q2 x1 x2 y1 y2 sl v w' := by
  unfold VR17C at h ⊢
  split at h
  · exact h
  · exact h
  · exact h
  · exact h
  · exact h
  · exact h
  · exact h
  · exact h
  · exact h
  · exact h
  · exact h
  · exact h
  · exact h
  · exact h
  · exact h
  · exact h
  · exact h
  · exact h
  · exact h
  · exact h
  · exact h
  · exact h
  · exact h
  · exact h
  · exact h
  · exact h
  · exact h
  · exact h
  · exact h
  · exact h
  · exact h
  · exact h
  · trivial

/-- what the loop keeps -/
def RowOk (B E t : Nat) (fl : Bool) : Prop := fl = true → ∃ j, t = j + 1 ∧ Lim (nthB B E j) E
set_option maxHeartbeats 6400000 in
theorem row_any (A : Nat → Addr) (w : World) (B E : Nat) (_hB : B < 18446744073709551616) (hE : E < 18446744073709551616) (hT : TabZ w) (hg : 1 < w.heap.size) (hErr : Errs w A) :
    Calls Tryd.prog 9 #[sv B E] w fun e w' => e = .returned (.bool true) ∧ Below w.heap.size w w' := by
  have k0 := below_new w (.cells #[.int .u64 (B : Int), .int .u64 (E : Int)] 36)
  have h0 := heap_alloc_new w (.cells #[.int .u64 (B : Int), .int .u64 (E : Int)] 36)
  have TZ := Bx.mk hT; have HG := Bx.mk hg; have ER := Bx.mk hErr
  unfold sv
  clear hT hg hErr
  go_enter Tryd.func9, Tryd.ntmps9
  go_upto_region 1 with (fail)
  change Code.wp _ _ _ _ (w.alloc (.cells #[.int .u64 (B : Int), .int .u64 (E : Int)] 36))
  generalize w.alloc (.cells #[.int .u64 (B : Int), .int .u64 (E : Int)] 36) = W at k0 h0 ⊢
  obtain ⟨n1, hn1⟩ : ∃ n1, n1 = w.heap.size := ⟨_, rfl⟩
  rw [← hn1] at h0 ⊢
  obtain ⟨a1, a2, a3, a4⟩ := two_cells h0
  have K0 := Bx.mk k0; have H0 := Bx.mk h0
  have s0 : Seed w W := ⟨k0, TZ.out.below HG.out k0, Nat.lt_of_lt_of_le HG.out k0.size⟩
  have S0 := Bx.mk s0
  clear k0 h0 s0 hn1
  by_cases hbad : E < B ∨ 9223372036854775808 < E
  · have cb := cover_bad A W B E hbad (ER.out.below K0.out)
    unfold sv at cb
    have CB := Bx.mk cb
    clear cb
    go_wp2_with fail
    refine CB.out.mono ?_
    rintro e w1 ⟨rfl, hb⟩
    have h1 := (hb.block _ (Array.getElem?_eq_some_iff.1 H0.out).1).trans H0.out
    clear a1 a2 a3 a4
    obtain ⟨a1, a2, a3, a4⟩ := two_cells h1
    have K1 := Bx.mk (K0.out.trans (hb.mono K0.out.size))
    clear hb h1 CB
    have ci := isE_any (ER.out.below K1.out) (ErrV.plain 4 (by decide)) 5
    have CI := Bx.mk ci
    clear ci
    by_cases c1 : (E : Int) < (B : Int)
    · clear hbad
      go_wp2_with fail
      refine CI.out.mono ?_
      rintro e w2 ⟨rfl, hb⟩
      have K2 := Bx.mk (K1.out.trans (hb.mono K1.out.size))
      clear hb CI
      go_wp2_with fail
      refine (alive_any w2 (TZ.out.below HG.out K2.out) (Nat.lt_of_lt_of_le HG.out K2.out.size)).mono ?_
      rintro e w3 ⟨rfl, hb⟩
      have K3 := Bx.mk (K2.out.trans (hb.mono K2.out.size))
      clear hb
      go_wp2_with fail
      go_ret
      exact ⟨rfl, K3.out⟩
    · have c2 : (9223372036854775808 : Int) < (E : Int) := by omega
      clear hbad
      go_wp2_with fail
      refine CI.out.mono ?_
      rintro e w2 ⟨rfl, hb⟩
      have K2 := Bx.mk (K1.out.trans (hb.mono K1.out.size))
      clear hb CI
      go_wp2_with fail
      refine (alive_any w2 (TZ.out.below HG.out K2.out) (Nat.lt_of_lt_of_le HG.out K2.out.size)).mono ?_
      rintro e w3 ⟨rfl, hb⟩
      have K3 := Bx.mk (K2.out.trans (hb.mono K2.out.size))
      clear hb
      go_wp2_with fail
      go_ret
      exact ⟨rfl, K3.out⟩
  · have c1 : ¬ (E : Int) < (B : Int) := by omega
    have c2 : ¬ (9223372036854775808 : Int) < (E : Int) := by omega
    have c3 : decide (E < B) = false := decide_eq_false (by omega)
    have c4 : decide ((9223372036854775808 : Int) < (E : Int)) = false := decide_eq_false c2
    have hBE : B ≤ E := by omega
    have h63 : E ≤ 2 ^ 63 := by omega
    have cb := cover_any W B E hBE h63 S0.out.tab S0.out.lt
    unfold sv at cb
    have CB := Bx.mk cb
    have HBE := Bx.mk hBE; have H63 := Bx.mk h63
    clear cb hbad hBE h63
    go_wp2_with fail
    refine CB.out.mono ?_
    rintro e w1 ⟨v, rfl, hcov⟩
    have hco := coords_own hcov.own
    have hb := hcov.below
    have h1 := (hb.block _ (Array.getElem?_eq_some_iff.1 H0.out).1).trans H0.out
    clear a1 a2 a3 a4 CB hcov
    obtain ⟨a1, a2, a3, a4⟩ := two_cells h1
    have S1 := Bx.mk (S0.out.next hb); have H1 := Bx.mk h1
    obtain ⟨ad, cap, rfl, l1, l2, l3⟩ := hco
    have hel : ∀ i, i < (coverN B E).length → ∃ g off, ad = some ⟨g, off, none⟩ ∧ g < w1.heap.size ∧ nthB B E i < E ∧ w1.cell? ⟨g, off + i * 2, none⟩ = some (.int .u8 (lvl (nthB B E i) E : Int)) ∧ w1.cell? ⟨g, off + i * 2 + 1, none⟩ = some (.int .u64 (nthB B E i / 2 ^ lvl (nthB B E i) E : Nat)) := fun i hi => by
      obtain ⟨g, off, e, hg, hc⟩ := l3 (by intro h; rw [h] at hi; simp at hi)
      obtain ⟨c1, c2⟩ := hc i hi
      obtain ⟨p1, p2⟩ := cover_get (E - B) (b := B) (e := E) i (Nat.le_refl _) hi
      rw [List.getElem?_eq_getElem hi] at p2
      rw [Option.some.inj p2] at c1 c2
      exact ⟨g, off, e, hg, p1, c1, c2⟩
    have hend := cover_len (E - B) (b := B) (e := E) (Nat.le_refl _) HBE.out H63.out
    unfold maxLen at l2
    obtain ⟨n, hn⟩ : ∃ n, n = (coverN B E).length := ⟨_, rfl⟩
    clear l3
    rw [← hn] at l1 hel hend ⊢
    have HEL := Bx.mk hel; have HEND := Bx.mk hend
    clear hb h1 hel hend hn S0 H0 K0
    go_wp2_with fail
    go_loopw [5, 6, 7, 8, 9, 10, 11] (fun av fv iv _ _ _ _ wr => ∃ (t : Nat) (fl : Bool), t ≤ n ∧ iv = .int .i64 (t : Int) ∧ av = .int .u64 (nthB B E t : Int) ∧ fv = .bool fl ∧ RowOk B E t fl ∧ Below w1.heap.size w1 wr) (fun _ _ iv _ _ _ _ _ => n - (intOf iv).toNat)
    case atStart => exact ⟨0, false, Nat.zero_le _, rfl, rfl, rfl, (fun h => by cases h), Below.refl _ _⟩
    case round =>
      obtain ⟨t, fl, ht, rfl, rfl, rfl, hok, hb⟩ := hrel
      have OK := Bx.mk hok; have BW := Bx.mk hb
      have SR := Bx.mk (S1.out.next hb)
      have hr := (hb.block _ (Array.getElem?_eq_some_iff.1 H1.out).1).trans H1.out
      clear a1 a2 a3 a4
      obtain ⟨a1, a2, a3, a4⟩ := two_cells hr
      have HR := Bx.mk hr
      clear hok hb hr
      by_cases hlt : t < n
      · obtain ⟨g, off, rfl, hgl, hbE, y1c, y2c⟩ := HEL.out t hlt
        obtain ⟨r1, r2, r3, r4, r5, r6⟩ := row_span hbE H63.out
        have hnb : nthB B E (t + 1) = nthB B E t + 2 ^ lvl (nthB B E t) E := rfl
        have hGE := Bx.mk hbE; have HNB := Bx.mk hnb
        generalize hbb : nthB B E t = b at *
        generalize hyy1 : lvl b E = y1 at *
        generalize hyy2 : b / 2 ^ y1 = y2 at *
        obtain ⟨nb, hnbb⟩ : ∃ nb, nb = b + 2 ^ y1 := ⟨_, rfl⟩
        rw [← hnbb] at r5 r6 hnb
        have p1 := (BW.out.cell (p := ⟨g, off + t * 2, none⟩) hgl).trans y1c
        have p2 := (BW.out.cell (p := ⟨g, off + t * 2 + 1, none⟩) hgl).trans y2c
        have cs := fun u => span_any u y1 y2
        rw [r3, r4, r5] at cs
        unfold cv sv at cs
        have CS := Bx.mk cs; have Y1C := Bx.mk y1c; have Y2C := Bx.mk y2c; have HGL := Bx.mk hgl; have R1 := Bx.mk r1; have R2 := Bx.mk r2; have HBB := Bx.mk hbb; have HY1 := Bx.mk hyy1; have HY2 := Bx.mk hyy2; have HNBB := Bx.mk hnbb; have R6 := Bx.mk r6
        clear cs y1c y2c hgl r1 r2 r3 r4 r5 r6 hbb hyy1 hyy2 hnbb hnb hbE
        have l1' : n ≤ cap := l1
        go_wp2_with fail
        refine (CS.out _).mono ?_
        rintro e w2 ⟨rfl, hb⟩
        have hb2 := BW.out.trans (hb.mono BW.out.size)
        have h2 := (hb2.block _ (Array.getElem?_eq_some_iff.1 H1.out).1).trans H1.out
        clear p1 p2 a1 a2 a3 a4 CS SR HR
        have B2 := Bx.mk hb2
        clear hb hb2
        go_upto_region 12 with (fail)
        have x8 := heap_alloc_new w2 (.cells #[.int .u64 (b : Int), .int .u64 (nb : Int)] 36)
        have b8 := below_new w2 (.cells #[.int .u64 (b : Int), .int .u64 (nb : Int)] 36)
        have h3 := (b8.block _ (Array.getElem?_eq_some_iff.1 h2).1).trans h2
        generalize w2.alloc (.cells #[.int .u64 (b : Int), .int .u64 (nb : Int)] 36) = w3 at x8 b8 h3 ⊢
        generalize w2.heap.size = n8 at x8 ⊢
        obtain ⟨a1, a2, a3, a4⟩ := two_cells h3
        obtain ⟨e1, e2, e3, e4⟩ := two_cells x8
        have B3 := Bx.mk (B2.out.trans (b8.mono B2.out.size)); have H3 := Bx.mk h3
        clear x8 b8 h2 h3 B2
        have f1 : ¬ (E : Int) < (nb : Int) := by have := R6.out; omega
        by_cases ht0 : t = 0
        · subst ht0
          obtain rfl : fl = false := by
            cases fl
            · rfl
            · obtain ⟨j, hj, _⟩ := OK.out rfl
              omega
          go_wp2_with fail
          go_roundw
          case rel => exact ⟨1, false, by omega, rfl, by rw [HNB.out, HNBB.out], rfl, (fun h => by cases h), B3.out⟩
          case measure => simp [intOf]; omega
        · obtain ⟨j, rfl⟩ : ∃ j, t = j + 1 := ⟨t - 1, by omega⟩
          obtain ⟨g', off', e', hgl', hpE, x1c, x2c⟩ := HEL.out j (by omega)
          obtain ⟨rfl, rfl⟩ : g = g' ∧ off = off' := by simpa using e'
          have hbp : b = nthB B E j + 2 ^ lvl (nthB B E j) E := HBB.out.symm
          have rc := row_cmp hpE H63.out (by rw [← hbp]; exact hGE.out)
          have rs := row_sib hpE H63.out (by rw [← hbp]; exact hGE.out)
          have rp := row_span hpE H63.out
          rw [← hbp, HY1.out, HY2.out] at rc rs
          have LF := Bx.mk (lim_falls hpE H63.out (by rw [← hbp]; exact hGE.out)); have LN := Bx.mk (fun h => lim_next hpE H63.out h (by rw [← hbp]; exact hGE.out))
          rw [← hbp, HY1.out] at LF LN
          have hOK : fl = true → Lim (nthB B E j) E := fun h => by
            obtain ⟨i, hi, hL⟩ := OK.out h
            obtain rfl : j = i := by omega
            exact hL
          generalize hbpp : nthB B E j = bp at *
          generalize hxx1 : lvl bp E = x1 at *
          generalize hxx2 : bp / 2 ^ x1 = x2 at *
          have p1 := (B3.out.cell (p := ⟨g, off + j * 2, none⟩) hgl').trans x1c
          have p2 := (B3.out.cell (p := ⟨g, off + j * 2 + 1, none⟩) hgl').trans x2c
          have cs := fun u => sibling_any u x1 x2
          have cm := fun u => cmp_any u x1 x2 y1 y2 (by have := rp.1; omega) (by have := R1.out; omega) (by have := rp.2.1; omega) (by have := R2.out; omega)
          rw [rc] at cm
          generalize hq1 : sbL x1 x2 = q1 at cs rs
          generalize hq2 : sbI x1 x2 = q2 at cs rs
          generalize upK x1 x2 = is at cs rs
          unfold cv at cs
          have CS := Bx.mk cs; have CM := Bx.mk cm; have RS := Bx.mk rs; have X1C := Bx.mk x1c; have X2C := Bx.mk x2c; have HOK := Bx.mk hOK
          clear cs cm rs x1c x2c rc rp hbpp hxx1 hxx2 hgl' e' hpE hbp hq1 hq2 hOK OK
          have f2 : ¬ ((j : Int) + 1) = 0 := by omega
          have f3 : (((j : Int) + 1) == 0) = false := by simpa using f2
          have f4 : (0 : Int) ≤ (j : Int) := by omega
          have hcast : ((j + 1 : Nat) : Int) = (j : Int) + 1 := rfl
          rw [hcast]
          clear hcast ht0
          go_wp2_with fail
          refine (CS.out _).mono ?_
          rintro e w4 ⟨rfl, hb⟩
          have hb4 := B3.out.trans (hb.mono B3.out.size)
          clear p1 p2 e1 e2 e3 e4 a1 a2 a3 a4 hb
          go_upto_region 17 with (fail)
          have x10 := heap_alloc_new w4 (.cells #[.int .u8 (q1 : Int), .int .u64 (q2 : Int)] 24)
          have b10 := below_new w4 (.cells #[.int .u8 (q1 : Int), .int .u64 (q2 : Int)] 24)
          have b5 := hb4.trans (b10.mono hb4.size)
          clear hb4 b10
          generalize w4.alloc (.cells #[.int .u8 (q1 : Int), .int .u64 (q2 : Int)] 24) = w5 at x10 b5 ⊢
          generalize w4.heap.size = n10 at x10 ⊢
          have X10 := Bx.mk x10; have B5 := Bx.mk b5
          have rx : ∀ u, Below w5.heap.size w5 u → u.rangeAt g (off + j * 2) [.int .u8 (x1 : Int), .int .u64 (x2 : Int)] ∧ u.rangeAt g (off + (j + 1) * 2) [.int .u8 (y1 : Int), .int .u64 (y2 : Int)] ∧ u.cell? ⟨g, off + j * 2 + 1, none⟩ = some (.int .u64 (x2 : Int)) := fun u hu => by
            have k := B5.out.trans (hu.mono B5.out.size)
            have z : ∀ o, u.cell? ⟨g, o, none⟩ = w1.cell? ⟨g, o, none⟩ := fun o => k.cell (p := ⟨g, o, none⟩) HGL.out
            refine ⟨fun i v hv => ?_, fun i v hv => ?_, (z _).trans X2C.out⟩
            · match i, hv with
              | 0, hv => cases hv; exact (z _).trans X1C.out
              | 1, hv => cases hv; exact (z _).trans X2C.out
            · match i, hv with
              | 0, hv => cases hv; exact (z _).trans Y1C.out
              | 1, hv => cases hv; exact (z _).trans Y2C.out
          have RX := Bx.mk rx
          clear x10 b5 rx B3 H3
          go_cut [114] (fun v wc => ∃ wv : World, wv = wc ∧ v = .bool false ∧ Below w5.heap.size w5 wv)
          case first =>
            cases is
            · clear f1
              refine wp_region_invU (n := 152) (VR17A g off n cap j n10 q1 q2 x1 x2 y1 y2) (by kernel_rfl) (by kernel_rfl) rfl (VR17A_mono g off n cap j n10 q1 q2 x1 x2 y1 y2) ?_ ?_
              · intro oi o hi f u hsame hbel hdep
                have h10 := (hbel.block _ (Array.getElem?_eq_some_iff.1 X10.out).1).trans X10.out
                have rx := (RX.out u hbel).1
                have ry := (RX.out u hbel).2.1
                have cx2 := (RX.out u hbel).2.2
                match oi, hi with
                | 0, hi =>
                  cases (show some _ = some o from hi)
                  have e11 : f.tmps.getD 11 undef = .bool false := hsame.slot 11 (fun _ _ h => invB_not (n := 152) (by kernel_rfl) 11 (by kernel_rfl) h)
                  clear hdep hsame hi
                  exact .inl ⟨wanted_none rfl, shows_move rfl _ rfl e11⟩
                | 1, hi =>
                  cases (show some _ = some o from hi)
                  have e83 : f.tmps.getD 83 undef = .bool false := dep_of (V := (VR17A g off n cap j n10 q1 q2 x1 x2 y1 y2)) hdep 0 83 (by kernel_rfl) (by kernel_rfl)
                  clear hdep hsame hi
                  exact .inl ⟨wanted_none rfl, shows_move rfl _ rfl e83⟩
                | 2, hi =>
                  cases (show some _ = some o from hi)
                  have e10 : f.tmps.getD 10 undef = .pointer (some ⟨n10, 0, none⟩) := hsame.slot 10 (fun _ _ h => invB_not (n := 152) (by kernel_rfl) 10 (by kernel_rfl) h)
                  have eg : f.tmps.getD 84 undef = .bool false := dep_of (V := (VR17A g off n cap j n10 q1 q2 x1 x2 y1 y2)) hdep 1 84 (by kernel_rfl) (by kernel_rfl)
                  clear hdep hsame hi
                  exact .inr ⟨unwanted_of 1 rfl eg (by kernel_rfl) (by decide), (fun d h => by cases h; rfl)⟩
                | 3, hi =>
                  cases (show some _ = some o from hi)
                  have e3 : f.tmps.getD 3 undef = .slice (some ⟨g, off, none⟩) n cap := hsame.slot 3 (fun _ _ h => invB_not (n := 152) (by kernel_rfl) 3 (by kernel_rfl) h)
                  have eg : f.tmps.getD 84 undef = .bool false := dep_of (V := (VR17A g off n cap j n10 q1 q2 x1 x2 y1 y2)) hdep 1 84 (by kernel_rfl) (by kernel_rfl)
                  clear hdep hsame hi
                  exact .inr ⟨unwanted_of 1 rfl eg (by kernel_rfl) (by decide), (fun d h => by cases h; rfl)⟩
                | 4, hi =>
                  cases (show some _ = some o from hi)
                  have e7 : f.tmps.getD 7 undef = .int .i64 ((j : Int) + 1) := hsame.slot 7 (fun _ _ h => invB_not (n := 152) (by kernel_rfl) 7 (by kernel_rfl) h)
                  have eg : f.tmps.getD 84 undef = .bool false := dep_of (V := (VR17A g off n cap j n10 q1 q2 x1 x2 y1 y2)) hdep 1 84 (by kernel_rfl) (by kernel_rfl)
                  clear hdep hsame hi
                  exact .inr ⟨unwanted_of 1 rfl eg (by kernel_rfl) (by decide), (fun d h => by cases h; rfl)⟩
                | 5, hi =>
                  cases (show some _ = some o from hi)
                  have e86 : f.tmps.getD 86 undef = undef := dep_of (V := (VR17A g off n cap j n10 q1 q2 x1 x2 y1 y2)) hdep 3 86 (by kernel_rfl) (by kernel_rfl)
                  have e87 : f.tmps.getD 87 undef = undef := dep_of (V := (VR17A g off n cap j n10 q1 q2 x1 x2 y1 y2)) hdep 4 87 (by kernel_rfl) (by kernel_rfl)
                  have eg : f.tmps.getD 84 undef = .bool false := dep_of (V := (VR17A g off n cap j n10 q1 q2 x1 x2 y1 y2)) hdep 1 84 (by kernel_rfl) (by kernel_rfl)
                  clear hdep hsame hi
                  exact .inr ⟨unwanted_of 1 rfl eg (by kernel_rfl) (by decide), (fun d h => by cases h; rfl)⟩
                | 6, hi =>
                  cases (show some _ = some o from hi)
                  have e88 : f.tmps.getD 88 undef = undef := dep_of (V := (VR17A g off n cap j n10 q1 q2 x1 x2 y1 y2)) hdep 5 88 (by kernel_rfl) (by kernel_rfl)
                  have eg : f.tmps.getD 84 undef = .bool false := dep_of (V := (VR17A g off n cap j n10 q1 q2 x1 x2 y1 y2)) hdep 1 84 (by kernel_rfl) (by kernel_rfl)
                  clear hdep hsame hi
                  exact .inr ⟨unwanted_of 1 rfl eg (by kernel_rfl) (by decide), (fun d h => by cases h; rfl)⟩
                | 7, hi =>
                  cases (show some _ = some o from hi)
                  have e85 : f.tmps.getD 85 undef = undef := dep_of (V := (VR17A g off n cap j n10 q1 q2 x1 x2 y1 y2)) hdep 2 85 (by kernel_rfl) (by kernel_rfl)
                  have e89 : f.tmps.getD 89 undef = undef := dep_of (V := (VR17A g off n cap j n10 q1 q2 x1 x2 y1 y2)) hdep 6 89 (by kernel_rfl) (by kernel_rfl)
                  have eg : f.tmps.getD 84 undef = .bool false := dep_of (V := (VR17A g off n cap j n10 q1 q2 x1 x2 y1 y2)) hdep 1 84 (by kernel_rfl) (by kernel_rfl)
                  clear hdep hsame hi
                  exact .inr ⟨unwanted_of 1 rfl eg (by kernel_rfl) (by decide), (fun d h => by cases h; rfl)⟩
                | 8, hi =>
                  cases (show some _ = some o from hi)
                  have e84 : f.tmps.getD 84 undef = .bool false := dep_of (V := (VR17A g off n cap j n10 q1 q2 x1 x2 y1 y2)) hdep 1 84 (by kernel_rfl) (by kernel_rfl)
                  have e90 : f.tmps.getD 90 undef = undef := dep_of (V := (VR17A g off n cap j n10 q1 q2 x1 x2 y1 y2)) hdep 7 90 (by kernel_rfl) (by kernel_rfl)
                  clear hdep hsame hi
                  exact .inl ⟨wanted_none rfl, shows_run rfl (.bool false) (by simp only [execOp, Act.eval]; go_simp) (Below.refl _ _) rfl⟩
                | 9, hi =>
                  cases (show some _ = some o from hi)
                  have e91 : f.tmps.getD 91 undef = .bool false := dep_of (V := (VR17A g off n cap j n10 q1 q2 x1 x2 y1 y2)) hdep 8 91 (by kernel_rfl) (by kernel_rfl)
                  clear hdep hsame hi
                  exact .inl ⟨wanted_none rfl, shows_move rfl _ rfl e91⟩
                | 10, hi =>
                  cases (show some _ = some o from hi)
                  have e3 : f.tmps.getD 3 undef = .slice (some ⟨g, off, none⟩) n cap := hsame.slot 3 (fun _ _ h => invB_not (n := 152) (by kernel_rfl) 3 (by kernel_rfl) h)
                  have eg : f.tmps.getD 92 undef = .bool false := dep_of (V := (VR17A g off n cap j n10 q1 q2 x1 x2 y1 y2)) hdep 9 92 (by kernel_rfl) (by kernel_rfl)
                  clear hdep hsame hi
                  exact .inr ⟨unwanted_of 9 rfl eg (by kernel_rfl) (by decide), (fun d h => by cases h; rfl)⟩
                | 11, hi =>
                  cases (show some _ = some o from hi)
                  have e7 : f.tmps.getD 7 undef = .int .i64 ((j : Int) + 1) := hsame.slot 7 (fun _ _ h => invB_not (n := 152) (by kernel_rfl) 7 (by kernel_rfl) h)
                  have eg : f.tmps.getD 92 undef = .bool false := dep_of (V := (VR17A g off n cap j n10 q1 q2 x1 x2 y1 y2)) hdep 9 92 (by kernel_rfl) (by kernel_rfl)
                  clear hdep hsame hi
                  exact .inr ⟨unwanted_of 9 rfl eg (by kernel_rfl) (by decide), (fun d h => by cases h; rfl)⟩
                | 12, hi =>
                  cases (show some _ = some o from hi)
                  have e94 : f.tmps.getD 94 undef = undef := dep_of (V := (VR17A g off n cap j n10 q1 q2 x1 x2 y1 y2)) hdep 11 94 (by kernel_rfl) (by kernel_rfl)
                  have eg : f.tmps.getD 92 undef = .bool false := dep_of (V := (VR17A g off n cap j n10 q1 q2 x1 x2 y1 y2)) hdep 9 92 (by kernel_rfl) (by kernel_rfl)
                  clear hdep hsame hi
                  exact .inr ⟨unwanted_of 9 rfl eg (by kernel_rfl) (by decide), (fun d h => by cases h; rfl)⟩
                | 13, hi =>
                  cases (show some _ = some o from hi)
                  have e93 : f.tmps.getD 93 undef = undef := dep_of (V := (VR17A g off n cap j n10 q1 q2 x1 x2 y1 y2)) hdep 10 93 (by kernel_rfl) (by kernel_rfl)
                  have e95 : f.tmps.getD 95 undef = undef := dep_of (V := (VR17A g off n cap j n10 q1 q2 x1 x2 y1 y2)) hdep 12 95 (by kernel_rfl) (by kernel_rfl)
                  have eg : f.tmps.getD 92 undef = .bool false := dep_of (V := (VR17A g off n cap j n10 q1 q2 x1 x2 y1 y2)) hdep 9 92 (by kernel_rfl) (by kernel_rfl)
                  clear hdep hsame hi
                  exact .inr ⟨unwanted_of 9 rfl eg (by kernel_rfl) (by decide), (fun d h => by cases h; rfl)⟩
                | 14, hi =>
                  cases (show some _ = some o from hi)
                  have e96 : f.tmps.getD 96 undef = undef := dep_of (V := (VR17A g off n cap j n10 q1 q2 x1 x2 y1 y2)) hdep 13 96 (by kernel_rfl) (by kernel_rfl)
                  have eg : f.tmps.getD 92 undef = .bool false := dep_of (V := (VR17A g off n cap j n10 q1 q2 x1 x2 y1 y2)) hdep 9 92 (by kernel_rfl) (by kernel_rfl)
                  clear hdep hsame hi
                  exact .inr ⟨unwanted_of 9 rfl eg (by kernel_rfl) (by decide), (fun d h => by cases h; rfl)⟩
                | 15, hi =>
                  cases (show some _ = some o from hi)
                  have e97 : f.tmps.getD 97 undef = undef := dep_of (V := (VR17A g off n cap j n10 q1 q2 x1 x2 y1 y2)) hdep 14 97 (by kernel_rfl) (by kernel_rfl)
                  have eg : f.tmps.getD 92 undef = .bool false := dep_of (V := (VR17A g off n cap j n10 q1 q2 x1 x2 y1 y2)) hdep 9 92 (by kernel_rfl) (by kernel_rfl)
                  clear hdep hsame hi
                  exact .inr ⟨unwanted_of 9 rfl eg (by kernel_rfl) (by decide), (fun d h => by cases h; rfl)⟩
                | 16, hi =>
                  cases (show some _ = some o from hi)
                  have e98 : f.tmps.getD 98 undef = undef := dep_of (V := (VR17A g off n cap j n10 q1 q2 x1 x2 y1 y2)) hdep 15 98 (by kernel_rfl) (by kernel_rfl)
                  have eg : f.tmps.getD 92 undef = .bool false := dep_of (V := (VR17A g off n cap j n10 q1 q2 x1 x2 y1 y2)) hdep 9 92 (by kernel_rfl) (by kernel_rfl)
                  clear hdep hsame hi
                  exact .inr ⟨unwanted_of 9 rfl eg (by kernel_rfl) (by decide), (fun d h => by cases h; rfl)⟩
                | 17, hi =>
                  cases (show some _ = some o from hi)
                  have e99 : f.tmps.getD 99 undef = undef := dep_of (V := (VR17A g off n cap j n10 q1 q2 x1 x2 y1 y2)) hdep 16 99 (by kernel_rfl) (by kernel_rfl)
                  have eg : f.tmps.getD 92 undef = .bool false := dep_of (V := (VR17A g off n cap j n10 q1 q2 x1 x2 y1 y2)) hdep 9 92 (by kernel_rfl) (by kernel_rfl)
                  clear hdep hsame hi
                  exact .inr ⟨unwanted_of 9 rfl eg (by kernel_rfl) (by decide), (fun d h => by cases h; rfl)⟩
                | 18, hi =>
                  cases (show some _ = some o from hi)
                  have e92 : f.tmps.getD 92 undef = .bool false := dep_of (V := (VR17A g off n cap j n10 q1 q2 x1 x2 y1 y2)) hdep 9 92 (by kernel_rfl) (by kernel_rfl)
                  have e100 : f.tmps.getD 100 undef = undef := dep_of (V := (VR17A g off n cap j n10 q1 q2 x1 x2 y1 y2)) hdep 17 100 (by kernel_rfl) (by kernel_rfl)
                  clear hdep hsame hi
                  exact .inl ⟨wanted_none rfl, shows_run rfl (.bool false) (by simp only [execOp, Act.eval]; go_simp) (Below.refl _ _) rfl⟩
                | 19, hi =>
                  cases (show some _ = some o from hi)
                  have e101 : f.tmps.getD 101 undef = .bool false := dep_of (V := (VR17A g off n cap j n10 q1 q2 x1 x2 y1 y2)) hdep 18 101 (by kernel_rfl) (by kernel_rfl)
                  clear hdep hsame hi
                  exact .inl ⟨wanted_none rfl, shows_move rfl _ rfl e101⟩
                | 20, hi =>
                  cases (show some _ = some o from hi)
                  have e3 : f.tmps.getD 3 undef = .slice (some ⟨g, off, none⟩) n cap := hsame.slot 3 (fun _ _ h => invB_not (n := 152) (by kernel_rfl) 3 (by kernel_rfl) h)
                  have eg : f.tmps.getD 102 undef = .bool false := dep_of (V := (VR17A g off n cap j n10 q1 q2 x1 x2 y1 y2)) hdep 19 102 (by kernel_rfl) (by kernel_rfl)
                  clear hdep hsame hi
                  exact .inl ⟨wanted_of 19 rfl eg (by kernel_rfl), shows_move rfl _ rfl e3⟩
                | 21, hi =>
                  cases (show some _ = some o from hi)
                  have e7 : f.tmps.getD 7 undef = .int .i64 ((j : Int) + 1) := hsame.slot 7 (fun _ _ h => invB_not (n := 152) (by kernel_rfl) 7 (by kernel_rfl) h)
                  have eg : f.tmps.getD 102 undef = .bool false := dep_of (V := (VR17A g off n cap j n10 q1 q2 x1 x2 y1 y2)) hdep 19 102 (by kernel_rfl) (by kernel_rfl)
                  clear hdep hsame hi
                  exact .inl ⟨wanted_of 19 rfl eg (by kernel_rfl), shows_move rfl _ rfl e7⟩
                | 22, hi =>
                  cases (show some _ = some o from hi)
                  have e104 : f.tmps.getD 104 undef = .int .i64 ((j : Int) + 1) := dep_of (V := (VR17A g off n cap j n10 q1 q2 x1 x2 y1 y2)) hdep 21 104 (by kernel_rfl) (by kernel_rfl)
                  have eg : f.tmps.getD 102 undef = .bool false := dep_of (V := (VR17A g off n cap j n10 q1 q2 x1 x2 y1 y2)) hdep 19 102 (by kernel_rfl) (by kernel_rfl)
                  clear hdep hsame hi
                  exact .inl ⟨wanted_of 19 rfl eg (by kernel_rfl), shows_run rfl (.int .i64 (j : Int)) (by simp only [execOp, Act.eval]; go_simp; exact IntWalk.i64_in _ (by omega)) (Below.refl _ _) rfl⟩
                | 23, hi =>
                  cases (show some _ = some o from hi)
                  have e103 : f.tmps.getD 103 undef = .slice (some ⟨g, off, none⟩) n cap := dep_of (V := (VR17A g off n cap j n10 q1 q2 x1 x2 y1 y2)) hdep 20 103 (by kernel_rfl) (by kernel_rfl)
                  have e105 : f.tmps.getD 105 undef = .int .i64 (j : Int) := dep_of (V := (VR17A g off n cap j n10 q1 q2 x1 x2 y1 y2)) hdep 22 105 (by kernel_rfl) (by kernel_rfl)
                  have eg : f.tmps.getD 102 undef = .bool false := dep_of (V := (VR17A g off n cap j n10 q1 q2 x1 x2 y1 y2)) hdep 19 102 (by kernel_rfl) (by kernel_rfl)
                  clear hdep hsame hi
                  have f1 : ¬ (n : Int) ≤ (j : Int) := by omega
                  have f2 : (j : Int) < (n : Int) := by omega
                  exact .inl ⟨wanted_of 19 rfl eg (by kernel_rfl), shows_run rfl (.pointer (some ⟨g, off + j * 2, none⟩)) (by simp only [execOp, Act.eval]; go_simp) (Below.refl _ _) rfl⟩
                | 24, hi =>
                  cases (show some _ = some o from hi)
                  have e106 : f.tmps.getD 106 undef = .pointer (some ⟨g, off + j * 2, none⟩) := dep_of (V := (VR17A g off n cap j n10 q1 q2 x1 x2 y1 y2)) hdep 23 106 (by kernel_rfl) (by kernel_rfl)
                  have eg : f.tmps.getD 102 undef = .bool false := dep_of (V := (VR17A g off n cap j n10 q1 q2 x1 x2 y1 y2)) hdep 19 102 (by kernel_rfl) (by kernel_rfl)
                  clear hdep hsame hi
                  exact .inl ⟨wanted_of 19 rfl eg (by kernel_rfl), shows_mid rfl 24 (.tmp 106) rfl g (off + j * 2) e106 [.int .u8 (x1 : Int), .int .u64 (x2 : Int)] rx Tryd.underlying24 rfl sizeC rfl⟩
                | 25, hi =>
                  cases (show some _ = some o from hi)
                  have e3 : f.tmps.getD 3 undef = .slice (some ⟨g, off, none⟩) n cap := hsame.slot 3 (fun _ _ h => invB_not (n := 152) (by kernel_rfl) 3 (by kernel_rfl) h)
                  have eg : f.tmps.getD 102 undef = .bool false := dep_of (V := (VR17A g off n cap j n10 q1 q2 x1 x2 y1 y2)) hdep 19 102 (by kernel_rfl) (by kernel_rfl)
                  clear hdep hsame hi
                  exact .inl ⟨wanted_of 19 rfl eg (by kernel_rfl), shows_move rfl _ rfl e3⟩
                | 26, hi =>
                  cases (show some _ = some o from hi)
                  have e7 : f.tmps.getD 7 undef = .int .i64 ((j : Int) + 1) := hsame.slot 7 (fun _ _ h => invB_not (n := 152) (by kernel_rfl) 7 (by kernel_rfl) h)
                  have eg : f.tmps.getD 102 undef = .bool false := dep_of (V := (VR17A g off n cap j n10 q1 q2 x1 x2 y1 y2)) hdep 19 102 (by kernel_rfl) (by kernel_rfl)
                  clear hdep hsame hi
                  exact .inl ⟨wanted_of 19 rfl eg (by kernel_rfl), shows_move rfl _ rfl e7⟩
                | 27, hi =>
                  cases (show some _ = some o from hi)
                  have e108 : f.tmps.getD 108 undef = .slice (some ⟨g, off, none⟩) n cap := dep_of (V := (VR17A g off n cap j n10 q1 q2 x1 x2 y1 y2)) hdep 25 108 (by kernel_rfl) (by kernel_rfl)
                  have e109 : f.tmps.getD 109 undef = .int .i64 ((j : Int) + 1) := dep_of (V := (VR17A g off n cap j n10 q1 q2 x1 x2 y1 y2)) hdep 26 109 (by kernel_rfl) (by kernel_rfl)
                  have eg : f.tmps.getD 102 undef = .bool false := dep_of (V := (VR17A g off n cap j n10 q1 q2 x1 x2 y1 y2)) hdep 19 102 (by kernel_rfl) (by kernel_rfl)
                  clear hdep hsame hi
                  have f1 : ¬ (n : Int) ≤ (j : Int) + 1 := by omega
                  have f2 : (j : Int) + 1 < (n : Int) := by omega
                  have f3 : (0 : Int) ≤ (j : Int) + 1 := by omega
                  exact .inl ⟨wanted_of 19 rfl eg (by kernel_rfl), shows_run rfl (.pointer (some ⟨g, off + (j + 1) * 2, none⟩)) (by simp only [execOp, Act.eval]; go_simp) (Below.refl _ _) rfl⟩
                | 28, hi =>
                  cases (show some _ = some o from hi)
                  have e110 : f.tmps.getD 110 undef = .pointer (some ⟨g, off + (j + 1) * 2, none⟩) := dep_of (V := (VR17A g off n cap j n10 q1 q2 x1 x2 y1 y2)) hdep 27 110 (by kernel_rfl) (by kernel_rfl)
                  have eg : f.tmps.getD 102 undef = .bool false := dep_of (V := (VR17A g off n cap j n10 q1 q2 x1 x2 y1 y2)) hdep 19 102 (by kernel_rfl) (by kernel_rfl)
                  clear hdep hsame hi
                  exact .inl ⟨wanted_of 19 rfl eg (by kernel_rfl), shows_mid rfl 24 (.tmp 110) rfl g (off + (j + 1) * 2) e110 [.int .u8 (y1 : Int), .int .u64 (y2 : Int)] ry Tryd.underlying24 rfl sizeC rfl⟩
                | 29, hi =>
                  cases (show some _ = some o from hi)
                  have e107 : f.tmps.getD 107 undef = .agg #[.int .u8 (x1 : Int), .int .u64 (x2 : Int)] := dep_of (V := (VR17A g off n cap j n10 q1 q2 x1 x2 y1 y2)) hdep 24 107 (by kernel_rfl) (by kernel_rfl)
                  have e111 : f.tmps.getD 111 undef = .agg #[.int .u8 (y1 : Int), .int .u64 (y2 : Int)] := dep_of (V := (VR17A g off n cap j n10 q1 q2 x1 x2 y1 y2)) hdep 28 111 (by kernel_rfl) (by kernel_rfl)
                  have eg : f.tmps.getD 102 undef = .bool false := dep_of (V := (VR17A g off n cap j n10 q1 q2 x1 x2 y1 y2)) hdep 19 102 (by kernel_rfl) (by kernel_rfl)
                  clear hdep hsame hi
                  have c := CM.out u
                  unfold cv at c
                  exact .inl ⟨wanted_of 19 rfl eg (by kernel_rfl), shows_call rfl 12 #[.agg #[.int .u8 (x1 : Int), .int .u64 (x2 : Int)], .agg #[.int .u8 (y1 : Int), .int .u64 (y2 : Int)]] (by simp only [execOp, Act.eval]; go_simp) (c) (fun _ => rfl)⟩
                | 30, hi =>
                  cases (show some _ = some o from hi)
                  have e112 : f.tmps.getD 112 undef = .int .i64 (-1) := dep_of (V := (VR17A g off n cap j n10 q1 q2 x1 x2 y1 y2)) hdep 29 112 (by kernel_rfl) (by kernel_rfl)
                  have eg : f.tmps.getD 102 undef = .bool false := dep_of (V := (VR17A g off n cap j n10 q1 q2 x1 x2 y1 y2)) hdep 19 102 (by kernel_rfl) (by kernel_rfl)
                  clear hdep hsame hi
                  exact .inl ⟨wanted_of 19 rfl eg (by kernel_rfl), shows_run rfl (.bool false) (by simp only [execOp, Act.eval]; go_simp) (Below.refl _ _) rfl⟩
                | 31, hi =>
                  cases (show some _ = some o from hi)
                  have e102 : f.tmps.getD 102 undef = .bool false := dep_of (V := (VR17A g off n cap j n10 q1 q2 x1 x2 y1 y2)) hdep 19 102 (by kernel_rfl) (by kernel_rfl)
                  have e113 : f.tmps.getD 113 undef = .bool false := dep_of (V := (VR17A g off n cap j n10 q1 q2 x1 x2 y1 y2)) hdep 30 113 (by kernel_rfl) (by kernel_rfl)
                  clear hdep hsame hi
                  exact .inl ⟨wanted_none rfl, shows_run rfl (.bool false) (by simp only [execOp, Act.eval]; go_simp) (Below.refl _ _) rfl⟩
                | n + 32, hi => exact absurd hi (by simp)
              · intro f u hsame hbel hall
                have q83 : f.tmps.getD 83 undef = .bool false := hall 0 _ 83 rfl rfl
                have q84 : f.tmps.getD 84 undef = .bool false := hall 1 _ 84 rfl rfl
                have q85 : f.tmps.getD 85 undef = undef := hall 2 _ 85 rfl rfl
                have q86 : f.tmps.getD 86 undef = undef := hall 3 _ 86 rfl rfl
                have q87 : f.tmps.getD 87 undef = undef := hall 4 _ 87 rfl rfl
                have q88 : f.tmps.getD 88 undef = undef := hall 5 _ 88 rfl rfl
                have q89 : f.tmps.getD 89 undef = undef := hall 6 _ 89 rfl rfl
                have q90 : f.tmps.getD 90 undef = undef := hall 7 _ 90 rfl rfl
                have q91 : f.tmps.getD 91 undef = .bool false := hall 8 _ 91 rfl rfl
                have q92 : f.tmps.getD 92 undef = .bool false := hall 9 _ 92 rfl rfl
                have q93 : f.tmps.getD 93 undef = undef := hall 10 _ 93 rfl rfl
                have q94 : f.tmps.getD 94 undef = undef := hall 11 _ 94 rfl rfl
                have q95 : f.tmps.getD 95 undef = undef := hall 12 _ 95 rfl rfl
                have q96 : f.tmps.getD 96 undef = undef := hall 13 _ 96 rfl rfl
                have q97 : f.tmps.getD 97 undef = undef := hall 14 _ 97 rfl rfl
                have q98 : f.tmps.getD 98 undef = undef := hall 15 _ 98 rfl rfl
                have q99 : f.tmps.getD 99 undef = undef := hall 16 _ 99 rfl rfl
                have q100 : f.tmps.getD 100 undef = undef := hall 17 _ 100 rfl rfl
                have q101 : f.tmps.getD 101 undef = .bool false := hall 18 _ 101 rfl rfl
                have q102 : f.tmps.getD 102 undef = .bool false := hall 19 _ 102 rfl rfl
                have q103 : f.tmps.getD 103 undef = .slice (some ⟨g, off, none⟩) n cap := hall 20 _ 103 rfl rfl
                have q104 : f.tmps.getD 104 undef = .int .i64 ((j : Int) + 1) := hall 21 _ 104 rfl rfl
                have q105 : f.tmps.getD 105 undef = .int .i64 (j : Int) := hall 22 _ 105 rfl rfl
                have q106 : f.tmps.getD 106 undef = .pointer (some ⟨g, off + j * 2, none⟩) := hall 23 _ 106 rfl rfl
                have q107 : f.tmps.getD 107 undef = .agg #[.int .u8 (x1 : Int), .int .u64 (x2 : Int)] := hall 24 _ 107 rfl rfl
                have q108 : f.tmps.getD 108 undef = .slice (some ⟨g, off, none⟩) n cap := hall 25 _ 108 rfl rfl
                have q109 : f.tmps.getD 109 undef = .int .i64 ((j : Int) + 1) := hall 26 _ 109 rfl rfl
                have q110 : f.tmps.getD 110 undef = .pointer (some ⟨g, off + (j + 1) * 2, none⟩) := hall 27 _ 110 rfl rfl
                have q111 : f.tmps.getD 111 undef = .agg #[.int .u8 (y1 : Int), .int .u64 (y2 : Int)] := hall 28 _ 111 rfl rfl
                have q112 : f.tmps.getD 112 undef = .int .i64 (-1) := hall 29 _ 112 rfl rfl
                have q113 : f.tmps.getD 113 undef = .bool false := hall 30 _ 113 rfl rfl
                have q114 : f.tmps.getD 114 undef = .bool false := hall 31 _ 114 rfl rfl
                obtain rfl := frame_eq hsame [(83, .bool false), (84, .bool false), (85, undef), (86, undef), (87, undef), (88, undef), (89, undef), (90, undef), (91, .bool false), (92, .bool false), (93, undef), (94, undef), (95, undef), (96, undef), (97, undef), (98, undef), (99, undef), (100, undef), (101, .bool false), (102, .bool false), (103, .slice (some ⟨g, off, none⟩) n cap), (104, .int .i64 ((j : Int) + 1)), (105, .int .i64 (j : Int)), (106, .pointer (some ⟨g, off + j * 2, none⟩)), (107, .agg #[.int .u8 (x1 : Int), .int .u64 (x2 : Int)]), (108, .slice (some ⟨g, off, none⟩) n cap), (109, .int .i64 ((j : Int) + 1)), (110, .pointer (some ⟨g, off + (j + 1) * 2, none⟩)), (111, .agg #[.int .u8 (y1 : Int), .int .u64 (y2 : Int)]), (112, .int .i64 (-1)), (113, .bool false), (114, .bool false)] (by kernel_rfl) ⟨q83, q84, q85, q86, q87, q88, q89, q90, q91, q92, q93, q94, q95, q96, q97, q98, q99, q100, q101, q102, q103, q104, q105, q106, q107, q108, q109, q110, q111, q112, q113, q114, trivial⟩
                clear hall hsame q83 q84 q85 q86 q87 q88 q89 q90 q91 q92 q93 q94 q95 q96 q97 q98 q99 q100 q101 q102 q103 q104 q105 q106 q107 q108 q109 q110 q111 q112 q113 q114
                simp only [List.foldl, List.setIfInBounds_toArray, List.set_cons_succ, List.set_cons_zero]
                have HB := Bx.mk hbel
                clear hbel
                go_wp2_with fail
                go_meet
                case rel => exact ⟨_, rfl, rfl, HB.out⟩
            · by_cases hq : q1 = y1 ∧ q2 = y2
              · have hodd := RS.out rfl hq.1 hq.2
                have hm : (x2 : Int).tmod 2 = 1 ∧ IntKind.u64.wrap 1 = 1 := ⟨by rw [Int.tmod_eq_emod_of_nonneg (by omega)]; omega, by decide⟩
                have HQ := Bx.mk hq; have HM := Bx.mk hm
                clear hq hodd hm f1
                refine wp_region_invU (n := 152) (VR17C g off n cap j n10 q1 q2 x1 x2 y1 y2) (by kernel_rfl) (by kernel_rfl) rfl (VR17C_mono g off n cap j n10 q1 q2 x1 x2 y1 y2) ?_ ?_
                · intro oi o hi f u hsame hbel hdep
                  have h10 := (hbel.block _ (Array.getElem?_eq_some_iff.1 X10.out).1).trans X10.out
                  have rx := (RX.out u hbel).1
                  have ry := (RX.out u hbel).2.1
                  have cx2 := (RX.out u hbel).2.2
                  match oi, hi with
                  | 0, hi =>
                    cases (show some _ = some o from hi)
                    have e11 : f.tmps.getD 11 undef = .bool true := hsame.slot 11 (fun _ _ h => invB_not (n := 152) (by kernel_rfl) 11 (by kernel_rfl) h)
                    clear hdep hsame hi
                    exact .inl ⟨wanted_none rfl, shows_move rfl _ rfl e11⟩
                  | 1, hi =>
                    cases (show some _ = some o from hi)
                    have e83 : f.tmps.getD 83 undef = .bool true := dep_of (V := (VR17C g off n cap j n10 q1 q2 x1 x2 y1 y2)) hdep 0 83 (by kernel_rfl) (by kernel_rfl)
                    clear hdep hsame hi
                    exact .inl ⟨wanted_none rfl, shows_move rfl _ rfl e83⟩
                  | 2, hi =>
                    cases (show some _ = some o from hi)
                    have e10 : f.tmps.getD 10 undef = .pointer (some ⟨n10, 0, none⟩) := hsame.slot 10 (fun _ _ h => invB_not (n := 152) (by kernel_rfl) 10 (by kernel_rfl) h)
                    have eg : f.tmps.getD 84 undef = .bool true := dep_of (V := (VR17C g off n cap j n10 q1 q2 x1 x2 y1 y2)) hdep 1 84 (by kernel_rfl) (by kernel_rfl)
                    clear hdep hsame hi
                    exact .inl ⟨wanted_of 1 rfl eg (by kernel_rfl), shows_row rfl 24 (.tmp 10) rfl n10 e10 #[.int .u8 (q1 : Int), .int .u64 (q2 : Int)] h10 Tryd.underlying24 rfl sizeC rfl⟩
                  | 3, hi =>
                    cases (show some _ = some o from hi)
                    have e3 : f.tmps.getD 3 undef = .slice (some ⟨g, off, none⟩) n cap := hsame.slot 3 (fun _ _ h => invB_not (n := 152) (by kernel_rfl) 3 (by kernel_rfl) h)
                    have eg : f.tmps.getD 84 undef = .bool true := dep_of (V := (VR17C g off n cap j n10 q1 q2 x1 x2 y1 y2)) hdep 1 84 (by kernel_rfl) (by kernel_rfl)
                    clear hdep hsame hi
                    exact .inl ⟨wanted_of 1 rfl eg (by kernel_rfl), shows_move rfl _ rfl e3⟩
                  | 4, hi =>
                    cases (show some _ = some o from hi)
                    have e7 : f.tmps.getD 7 undef = .int .i64 ((j : Int) + 1) := hsame.slot 7 (fun _ _ h => invB_not (n := 152) (by kernel_rfl) 7 (by kernel_rfl) h)
                    have eg : f.tmps.getD 84 undef = .bool true := dep_of (V := (VR17C g off n cap j n10 q1 q2 x1 x2 y1 y2)) hdep 1 84 (by kernel_rfl) (by kernel_rfl)
                    clear hdep hsame hi
                    exact .inl ⟨wanted_of 1 rfl eg (by kernel_rfl), shows_move rfl _ rfl e7⟩
                  | 5, hi =>
                    cases (show some _ = some o from hi)
                    have e86 : f.tmps.getD 86 undef = .slice (some ⟨g, off, none⟩) n cap := dep_of (V := (VR17C g off n cap j n10 q1 q2 x1 x2 y1 y2)) hdep 3 86 (by kernel_rfl) (by kernel_rfl)
                    have e87 : f.tmps.getD 87 undef = .int .i64 ((j : Int) + 1) := dep_of (V := (VR17C g off n cap j n10 q1 q2 x1 x2 y1 y2)) hdep 4 87 (by kernel_rfl) (by kernel_rfl)
                    have eg : f.tmps.getD 84 undef = .bool true := dep_of (V := (VR17C g off n cap j n10 q1 q2 x1 x2 y1 y2)) hdep 1 84 (by kernel_rfl) (by kernel_rfl)
                    clear hdep hsame hi
                    have f1 : ¬ (n : Int) ≤ (j : Int) + 1 := by omega
                    have f2 : (j : Int) + 1 < (n : Int) := by omega
                    have f3 : (0 : Int) ≤ (j : Int) + 1 := by omega
                    exact .inl ⟨wanted_of 1 rfl eg (by kernel_rfl), shows_run rfl (.pointer (some ⟨g, off + (j + 1) * 2, none⟩)) (by simp only [execOp, Act.eval]; go_simp) (Below.refl _ _) rfl⟩
                  | 6, hi =>
                    cases (show some _ = some o from hi)
                    have e88 : f.tmps.getD 88 undef = .pointer (some ⟨g, off + (j + 1) * 2, none⟩) := dep_of (V := (VR17C g off n cap j n10 q1 q2 x1 x2 y1 y2)) hdep 5 88 (by kernel_rfl) (by kernel_rfl)
                    have eg : f.tmps.getD 84 undef = .bool true := dep_of (V := (VR17C g off n cap j n10 q1 q2 x1 x2 y1 y2)) hdep 1 84 (by kernel_rfl) (by kernel_rfl)
                    clear hdep hsame hi
                    exact .inl ⟨wanted_of 1 rfl eg (by kernel_rfl), shows_mid rfl 24 (.tmp 88) rfl g (off + (j + 1) * 2) e88 [.int .u8 (y1 : Int), .int .u64 (y2 : Int)] ry Tryd.underlying24 rfl sizeC rfl⟩
                  | 7, hi =>
                    cases (show some _ = some o from hi)
                    have e85 : f.tmps.getD 85 undef = .agg #[.int .u8 (q1 : Int), .int .u64 (q2 : Int)] := dep_of (V := (VR17C g off n cap j n10 q1 q2 x1 x2 y1 y2)) hdep 2 85 (by kernel_rfl) (by kernel_rfl)
                    have e89 : f.tmps.getD 89 undef = .agg #[.int .u8 (y1 : Int), .int .u64 (y2 : Int)] := dep_of (V := (VR17C g off n cap j n10 q1 q2 x1 x2 y1 y2)) hdep 6 89 (by kernel_rfl) (by kernel_rfl)
                    have eg : f.tmps.getD 84 undef = .bool true := dep_of (V := (VR17C g off n cap j n10 q1 q2 x1 x2 y1 y2)) hdep 1 84 (by kernel_rfl) (by kernel_rfl)
                    clear hdep hsame hi
                    have q := fun w => cv_eql w q1 q2 y1 y2
                    rw [decide_eq_true HQ.out] at q
                    exact .inl ⟨wanted_of 1 rfl eg (by kernel_rfl), shows_run rfl (.bool true) (by simp only [execOp, Act.eval]; go_simp) (Below.refl _ _) rfl⟩
                  | 8, hi =>
                    cases (show some _ = some o from hi)
                    have e84 : f.tmps.getD 84 undef = .bool true := dep_of (V := (VR17C g off n cap j n10 q1 q2 x1 x2 y1 y2)) hdep 1 84 (by kernel_rfl) (by kernel_rfl)
                    have e90 : f.tmps.getD 90 undef = .bool true := dep_of (V := (VR17C g off n cap j n10 q1 q2 x1 x2 y1 y2)) hdep 7 90 (by kernel_rfl) (by kernel_rfl)
                    clear hdep hsame hi
                    exact .inl ⟨wanted_none rfl, shows_run rfl (.bool true) (by simp only [execOp, Act.eval]; go_simp) (Below.refl _ _) rfl⟩
                  | 9, hi =>
                    cases (show some _ = some o from hi)
                    have e91 : f.tmps.getD 91 undef = .bool true := dep_of (V := (VR17C g off n cap j n10 q1 q2 x1 x2 y1 y2)) hdep 8 91 (by kernel_rfl) (by kernel_rfl)
                    clear hdep hsame hi
                    exact .inl ⟨wanted_none rfl, shows_move rfl _ rfl e91⟩
                  | 10, hi =>
                    cases (show some _ = some o from hi)
                    have e3 : f.tmps.getD 3 undef = .slice (some ⟨g, off, none⟩) n cap := hsame.slot 3 (fun _ _ h => invB_not (n := 152) (by kernel_rfl) 3 (by kernel_rfl) h)
                    have eg : f.tmps.getD 92 undef = .bool true := dep_of (V := (VR17C g off n cap j n10 q1 q2 x1 x2 y1 y2)) hdep 9 92 (by kernel_rfl) (by kernel_rfl)
                    clear hdep hsame hi
                    exact .inl ⟨wanted_of 9 rfl eg (by kernel_rfl), shows_move rfl _ rfl e3⟩
                  | 11, hi =>
                    cases (show some _ = some o from hi)
                    have e7 : f.tmps.getD 7 undef = .int .i64 ((j : Int) + 1) := hsame.slot 7 (fun _ _ h => invB_not (n := 152) (by kernel_rfl) 7 (by kernel_rfl) h)
                    have eg : f.tmps.getD 92 undef = .bool true := dep_of (V := (VR17C g off n cap j n10 q1 q2 x1 x2 y1 y2)) hdep 9 92 (by kernel_rfl) (by kernel_rfl)
                    clear hdep hsame hi
                    exact .inl ⟨wanted_of 9 rfl eg (by kernel_rfl), shows_move rfl _ rfl e7⟩
                  | 12, hi =>
                    cases (show some _ = some o from hi)
                    have e94 : f.tmps.getD 94 undef = .int .i64 ((j : Int) + 1) := dep_of (V := (VR17C g off n cap j n10 q1 q2 x1 x2 y1 y2)) hdep 11 94 (by kernel_rfl) (by kernel_rfl)
                    have eg : f.tmps.getD 92 undef = .bool true := dep_of (V := (VR17C g off n cap j n10 q1 q2 x1 x2 y1 y2)) hdep 9 92 (by kernel_rfl) (by kernel_rfl)
                    clear hdep hsame hi
                    exact .inl ⟨wanted_of 9 rfl eg (by kernel_rfl), shows_run rfl (.int .i64 (j : Int)) (by simp only [execOp, Act.eval]; go_simp; exact IntWalk.i64_in _ (by omega)) (Below.refl _ _) rfl⟩
                  | 13, hi =>
                    cases (show some _ = some o from hi)
                    have e93 : f.tmps.getD 93 undef = .slice (some ⟨g, off, none⟩) n cap := dep_of (V := (VR17C g off n cap j n10 q1 q2 x1 x2 y1 y2)) hdep 10 93 (by kernel_rfl) (by kernel_rfl)
                    have e95 : f.tmps.getD 95 undef = .int .i64 (j : Int) := dep_of (V := (VR17C g off n cap j n10 q1 q2 x1 x2 y1 y2)) hdep 12 95 (by kernel_rfl) (by kernel_rfl)
                    have eg : f.tmps.getD 92 undef = .bool true := dep_of (V := (VR17C g off n cap j n10 q1 q2 x1 x2 y1 y2)) hdep 9 92 (by kernel_rfl) (by kernel_rfl)
                    clear hdep hsame hi
                    have f1 : ¬ (n : Int) ≤ (j : Int) := by omega
                    have f2 : (j : Int) < (n : Int) := by omega
                    exact .inl ⟨wanted_of 9 rfl eg (by kernel_rfl), shows_run rfl (.pointer (some ⟨g, off + j * 2, none⟩)) (by simp only [execOp, Act.eval]; go_simp) (Below.refl _ _) rfl⟩
                  | 14, hi =>
                    cases (show some _ = some o from hi)
                    have e96 : f.tmps.getD 96 undef = .pointer (some ⟨g, off + j * 2, none⟩) := dep_of (V := (VR17C g off n cap j n10 q1 q2 x1 x2 y1 y2)) hdep 13 96 (by kernel_rfl) (by kernel_rfl)
                    have eg : f.tmps.getD 92 undef = .bool true := dep_of (V := (VR17C g off n cap j n10 q1 q2 x1 x2 y1 y2)) hdep 9 92 (by kernel_rfl) (by kernel_rfl)
                    clear hdep hsame hi
                    exact .inl ⟨wanted_of 9 rfl eg (by kernel_rfl), shows_run rfl (.pointer (some ⟨g, off + j * 2 + 1, none⟩)) (by simp only [execOp, Act.eval]; go_simp) (Below.refl _ _) rfl⟩
                  | 15, hi =>
                    cases (show some _ = some o from hi)
                    have e97 : f.tmps.getD 97 undef = .pointer (some ⟨g, off + j * 2 + 1, none⟩) := dep_of (V := (VR17C g off n cap j n10 q1 q2 x1 x2 y1 y2)) hdep 14 97 (by kernel_rfl) (by kernel_rfl)
                    have eg : f.tmps.getD 92 undef = .bool true := dep_of (V := (VR17C g off n cap j n10 q1 q2 x1 x2 y1 y2)) hdep 9 92 (by kernel_rfl) (by kernel_rfl)
                    clear hdep hsame hi
                    have hc := cx2
                    exact .inl ⟨wanted_of 9 rfl eg (by kernel_rfl), shows_run rfl (.int .u64 (x2 : Int)) (by simp only [execOp, Act.eval]; go_simp) (Below.refl _ _) rfl⟩
                  | 16, hi =>
                    cases (show some _ = some o from hi)
                    have e98 : f.tmps.getD 98 undef = .int .u64 (x2 : Int) := dep_of (V := (VR17C g off n cap j n10 q1 q2 x1 x2 y1 y2)) hdep 15 98 (by kernel_rfl) (by kernel_rfl)
                    have eg : f.tmps.getD 92 undef = .bool true := dep_of (V := (VR17C g off n cap j n10 q1 q2 x1 x2 y1 y2)) hdep 9 92 (by kernel_rfl) (by kernel_rfl)
                    clear hdep hsame hi
                    obtain ⟨hm, hm2⟩ := HM.out
                    exact .inl ⟨wanted_of 9 rfl eg (by kernel_rfl), shows_run rfl (.int .u64 1) (by simp only [execOp, Act.eval]; go_simp) (Below.refl _ _) rfl⟩
                  | 17, hi =>
                    cases (show some _ = some o from hi)
                    have e99 : f.tmps.getD 99 undef = .int .u64 1 := dep_of (V := (VR17C g off n cap j n10 q1 q2 x1 x2 y1 y2)) hdep 16 99 (by kernel_rfl) (by kernel_rfl)
                    have eg : f.tmps.getD 92 undef = .bool true := dep_of (V := (VR17C g off n cap j n10 q1 q2 x1 x2 y1 y2)) hdep 9 92 (by kernel_rfl) (by kernel_rfl)
                    clear hdep hsame hi
                    exact .inl ⟨wanted_of 9 rfl eg (by kernel_rfl), shows_run rfl (.bool false) (by simp only [execOp, Act.eval]; go_simp) (Below.refl _ _) rfl⟩
                  | 18, hi =>
                    cases (show some _ = some o from hi)
                    have e92 : f.tmps.getD 92 undef = .bool true := dep_of (V := (VR17C g off n cap j n10 q1 q2 x1 x2 y1 y2)) hdep 9 92 (by kernel_rfl) (by kernel_rfl)
                    have e100 : f.tmps.getD 100 undef = .bool false := dep_of (V := (VR17C g off n cap j n10 q1 q2 x1 x2 y1 y2)) hdep 17 100 (by kernel_rfl) (by kernel_rfl)
                    clear hdep hsame hi
                    exact .inl ⟨wanted_none rfl, shows_run rfl (.bool false) (by simp only [execOp, Act.eval]; go_simp) (Below.refl _ _) rfl⟩
                  | 19, hi =>
                    cases (show some _ = some o from hi)
                    have e101 : f.tmps.getD 101 undef = .bool false := dep_of (V := (VR17C g off n cap j n10 q1 q2 x1 x2 y1 y2)) hdep 18 101 (by kernel_rfl) (by kernel_rfl)
                    clear hdep hsame hi
                    exact .inl ⟨wanted_none rfl, shows_move rfl _ rfl e101⟩
                  | 20, hi =>
                    cases (show some _ = some o from hi)
                    have e3 : f.tmps.getD 3 undef = .slice (some ⟨g, off, none⟩) n cap := hsame.slot 3 (fun _ _ h => invB_not (n := 152) (by kernel_rfl) 3 (by kernel_rfl) h)
                    have eg : f.tmps.getD 102 undef = .bool false := dep_of (V := (VR17C g off n cap j n10 q1 q2 x1 x2 y1 y2)) hdep 19 102 (by kernel_rfl) (by kernel_rfl)
                    clear hdep hsame hi
                    exact .inl ⟨wanted_of 19 rfl eg (by kernel_rfl), shows_move rfl _ rfl e3⟩
                  | 21, hi =>
                    cases (show some _ = some o from hi)
                    have e7 : f.tmps.getD 7 undef = .int .i64 ((j : Int) + 1) := hsame.slot 7 (fun _ _ h => invB_not (n := 152) (by kernel_rfl) 7 (by kernel_rfl) h)
                    have eg : f.tmps.getD 102 undef = .bool false := dep_of (V := (VR17C g off n cap j n10 q1 q2 x1 x2 y1 y2)) hdep 19 102 (by kernel_rfl) (by kernel_rfl)
                    clear hdep hsame hi
                    exact .inl ⟨wanted_of 19 rfl eg (by kernel_rfl), shows_move rfl _ rfl e7⟩
                  | 22, hi =>
                    cases (show some _ = some o from hi)
                    have e104 : f.tmps.getD 104 undef = .int .i64 ((j : Int) + 1) := dep_of (V := (VR17C g off n cap j n10 q1 q2 x1 x2 y1 y2)) hdep 21 104 (by kernel_rfl) (by kernel_rfl)
                    have eg : f.tmps.getD 102 undef = .bool false := dep_of (V := (VR17C g off n cap j n10 q1 q2 x1 x2 y1 y2)) hdep 19 102 (by kernel_rfl) (by kernel_rfl)
                    clear hdep hsame hi
                    exact .inl ⟨wanted_of 19 rfl eg (by kernel_rfl), shows_run rfl (.int .i64 (j : Int)) (by simp only [execOp, Act.eval]; go_simp; exact IntWalk.i64_in _ (by omega)) (Below.refl _ _) rfl⟩
                  | 23, hi =>
                    cases (show some _ = some o from hi)
                    have e103 : f.tmps.getD 103 undef = .slice (some ⟨g, off, none⟩) n cap := dep_of (V := (VR17C g off n cap j n10 q1 q2 x1 x2 y1 y2)) hdep 20 103 (by kernel_rfl) (by kernel_rfl)
                    have e105 : f.tmps.getD 105 undef = .int .i64 (j : Int) := dep_of (V := (VR17C g off n cap j n10 q1 q2 x1 x2 y1 y2)) hdep 22 105 (by kernel_rfl) (by kernel_rfl)
                    have eg : f.tmps.getD 102 undef = .bool false := dep_of (V := (VR17C g off n cap j n10 q1 q2 x1 x2 y1 y2)) hdep 19 102 (by kernel_rfl) (by kernel_rfl)
                    clear hdep hsame hi
                    have f1 : ¬ (n : Int) ≤ (j : Int) := by omega
                    have f2 : (j : Int) < (n : Int) := by omega
                    exact .inl ⟨wanted_of 19 rfl eg (by kernel_rfl), shows_run rfl (.pointer (some ⟨g, off + j * 2, none⟩)) (by simp only [execOp, Act.eval]; go_simp) (Below.refl _ _) rfl⟩
                  | 24, hi =>
                    cases (show some _ = some o from hi)
                    have e106 : f.tmps.getD 106 undef = .pointer (some ⟨g, off + j * 2, none⟩) := dep_of (V := (VR17C g off n cap j n10 q1 q2 x1 x2 y1 y2)) hdep 23 106 (by kernel_rfl) (by kernel_rfl)
                    have eg : f.tmps.getD 102 undef = .bool false := dep_of (V := (VR17C g off n cap j n10 q1 q2 x1 x2 y1 y2)) hdep 19 102 (by kernel_rfl) (by kernel_rfl)
                    clear hdep hsame hi
                    exact .inl ⟨wanted_of 19 rfl eg (by kernel_rfl), shows_mid rfl 24 (.tmp 106) rfl g (off + j * 2) e106 [.int .u8 (x1 : Int), .int .u64 (x2 : Int)] rx Tryd.underlying24 rfl sizeC rfl⟩
                  | 25, hi =>
                    cases (show some _ = some o from hi)
                    have e3 : f.tmps.getD 3 undef = .slice (some ⟨g, off, none⟩) n cap := hsame.slot 3 (fun _ _ h => invB_not (n := 152) (by kernel_rfl) 3 (by kernel_rfl) h)
                    have eg : f.tmps.getD 102 undef = .bool false := dep_of (V := (VR17C g off n cap j n10 q1 q2 x1 x2 y1 y2)) hdep 19 102 (by kernel_rfl) (by kernel_rfl)
                    clear hdep hsame hi
                    exact .inl ⟨wanted_of 19 rfl eg (by kernel_rfl), shows_move rfl _ rfl e3⟩
                  | 26, hi =>
                    cases (show some _ = some o from hi)
                    have e7 : f.tmps.getD 7 undef = .int .i64 ((j : Int) + 1) := hsame.slot 7 (fun _ _ h => invB_not (n := 152) (by kernel_rfl) 7 (by kernel_rfl) h)
                    have eg : f.tmps.getD 102 undef = .bool false := dep_of (V := (VR17C g off n cap j n10 q1 q2 x1 x2 y1 y2)) hdep 19 102 (by kernel_rfl) (by kernel_rfl)
                    clear hdep hsame hi
                    exact .inl ⟨wanted_of 19 rfl eg (by kernel_rfl), shows_move rfl _ rfl e7⟩
                  | 27, hi =>
                    cases (show some _ = some o from hi)
                    have e108 : f.tmps.getD 108 undef = .slice (some ⟨g, off, none⟩) n cap := dep_of (V := (VR17C g off n cap j n10 q1 q2 x1 x2 y1 y2)) hdep 25 108 (by kernel_rfl) (by kernel_rfl)
                    have e109 : f.tmps.getD 109 undef = .int .i64 ((j : Int) + 1) := dep_of (V := (VR17C g off n cap j n10 q1 q2 x1 x2 y1 y2)) hdep 26 109 (by kernel_rfl) (by kernel_rfl)
                    have eg : f.tmps.getD 102 undef = .bool false := dep_of (V := (VR17C g off n cap j n10 q1 q2 x1 x2 y1 y2)) hdep 19 102 (by kernel_rfl) (by kernel_rfl)
                    clear hdep hsame hi
                    have f1 : ¬ (n : Int) ≤ (j : Int) + 1 := by omega
                    have f2 : (j : Int) + 1 < (n : Int) := by omega
                    have f3 : (0 : Int) ≤ (j : Int) + 1 := by omega
                    exact .inl ⟨wanted_of 19 rfl eg (by kernel_rfl), shows_run rfl (.pointer (some ⟨g, off + (j + 1) * 2, none⟩)) (by simp only [execOp, Act.eval]; go_simp) (Below.refl _ _) rfl⟩
                  | 28, hi =>
                    cases (show some _ = some o from hi)
                    have e110 : f.tmps.getD 110 undef = .pointer (some ⟨g, off + (j + 1) * 2, none⟩) := dep_of (V := (VR17C g off n cap j n10 q1 q2 x1 x2 y1 y2)) hdep 27 110 (by kernel_rfl) (by kernel_rfl)
                    have eg : f.tmps.getD 102 undef = .bool false := dep_of (V := (VR17C g off n cap j n10 q1 q2 x1 x2 y1 y2)) hdep 19 102 (by kernel_rfl) (by kernel_rfl)
                    clear hdep hsame hi
                    exact .inl ⟨wanted_of 19 rfl eg (by kernel_rfl), shows_mid rfl 24 (.tmp 110) rfl g (off + (j + 1) * 2) e110 [.int .u8 (y1 : Int), .int .u64 (y2 : Int)] ry Tryd.underlying24 rfl sizeC rfl⟩
                  | 29, hi =>
                    cases (show some _ = some o from hi)
                    have e107 : f.tmps.getD 107 undef = .agg #[.int .u8 (x1 : Int), .int .u64 (x2 : Int)] := dep_of (V := (VR17C g off n cap j n10 q1 q2 x1 x2 y1 y2)) hdep 24 107 (by kernel_rfl) (by kernel_rfl)
                    have e111 : f.tmps.getD 111 undef = .agg #[.int .u8 (y1 : Int), .int .u64 (y2 : Int)] := dep_of (V := (VR17C g off n cap j n10 q1 q2 x1 x2 y1 y2)) hdep 28 111 (by kernel_rfl) (by kernel_rfl)
                    have eg : f.tmps.getD 102 undef = .bool false := dep_of (V := (VR17C g off n cap j n10 q1 q2 x1 x2 y1 y2)) hdep 19 102 (by kernel_rfl) (by kernel_rfl)
                    clear hdep hsame hi
                    have c := CM.out u
                    unfold cv at c
                    exact .inl ⟨wanted_of 19 rfl eg (by kernel_rfl), shows_call rfl 12 #[.agg #[.int .u8 (x1 : Int), .int .u64 (x2 : Int)], .agg #[.int .u8 (y1 : Int), .int .u64 (y2 : Int)]] (by simp only [execOp, Act.eval]; go_simp) (c) (fun _ => rfl)⟩
                  | 30, hi =>
                    cases (show some _ = some o from hi)
                    have e112 : f.tmps.getD 112 undef = .int .i64 (-1) := dep_of (V := (VR17C g off n cap j n10 q1 q2 x1 x2 y1 y2)) hdep 29 112 (by kernel_rfl) (by kernel_rfl)
                    have eg : f.tmps.getD 102 undef = .bool false := dep_of (V := (VR17C g off n cap j n10 q1 q2 x1 x2 y1 y2)) hdep 19 102 (by kernel_rfl) (by kernel_rfl)
                    clear hdep hsame hi
                    exact .inl ⟨wanted_of 19 rfl eg (by kernel_rfl), shows_run rfl (.bool false) (by simp only [execOp, Act.eval]; go_simp) (Below.refl _ _) rfl⟩
                  | 31, hi =>
                    cases (show some _ = some o from hi)
                    have e102 : f.tmps.getD 102 undef = .bool false := dep_of (V := (VR17C g off n cap j n10 q1 q2 x1 x2 y1 y2)) hdep 19 102 (by kernel_rfl) (by kernel_rfl)
                    have e113 : f.tmps.getD 113 undef = .bool false := dep_of (V := (VR17C g off n cap j n10 q1 q2 x1 x2 y1 y2)) hdep 30 113 (by kernel_rfl) (by kernel_rfl)
                    clear hdep hsame hi
                    exact .inl ⟨wanted_none rfl, shows_run rfl (.bool false) (by simp only [execOp, Act.eval]; go_simp) (Below.refl _ _) rfl⟩
                  | n + 32, hi => exact absurd hi (by simp)
                · intro f u hsame hbel hall
                  have q83 : f.tmps.getD 83 undef = .bool true := hall 0 _ 83 rfl rfl
                  have q84 : f.tmps.getD 84 undef = .bool true := hall 1 _ 84 rfl rfl
                  have q85 : f.tmps.getD 85 undef = .agg #[.int .u8 (q1 : Int), .int .u64 (q2 : Int)] := hall 2 _ 85 rfl rfl
                  have q86 : f.tmps.getD 86 undef = .slice (some ⟨g, off, none⟩) n cap := hall 3 _ 86 rfl rfl
                  have q87 : f.tmps.getD 87 undef = .int .i64 ((j : Int) + 1) := hall 4 _ 87 rfl rfl
                  have q88 : f.tmps.getD 88 undef = .pointer (some ⟨g, off + (j + 1) * 2, none⟩) := hall 5 _ 88 rfl rfl
                  have q89 : f.tmps.getD 89 undef = .agg #[.int .u8 (y1 : Int), .int .u64 (y2 : Int)] := hall 6 _ 89 rfl rfl
                  have q90 : f.tmps.getD 90 undef = .bool true := hall 7 _ 90 rfl rfl
                  have q91 : f.tmps.getD 91 undef = .bool true := hall 8 _ 91 rfl rfl
                  have q92 : f.tmps.getD 92 undef = .bool true := hall 9 _ 92 rfl rfl
                  have q93 : f.tmps.getD 93 undef = .slice (some ⟨g, off, none⟩) n cap := hall 10 _ 93 rfl rfl
                  have q94 : f.tmps.getD 94 undef = .int .i64 ((j : Int) + 1) := hall 11 _ 94 rfl rfl
                  have q95 : f.tmps.getD 95 undef = .int .i64 (j : Int) := hall 12 _ 95 rfl rfl
                  have q96 : f.tmps.getD 96 undef = .pointer (some ⟨g, off + j * 2, none⟩) := hall 13 _ 96 rfl rfl
                  have q97 : f.tmps.getD 97 undef = .pointer (some ⟨g, off + j * 2 + 1, none⟩) := hall 14 _ 97 rfl rfl
                  have q98 : f.tmps.getD 98 undef = .int .u64 (x2 : Int) := hall 15 _ 98 rfl rfl
                  have q99 : f.tmps.getD 99 undef = .int .u64 1 := hall 16 _ 99 rfl rfl
                  have q100 : f.tmps.getD 100 undef = .bool false := hall 17 _ 100 rfl rfl
                  have q101 : f.tmps.getD 101 undef = .bool false := hall 18 _ 101 rfl rfl
                  have q102 : f.tmps.getD 102 undef = .bool false := hall 19 _ 102 rfl rfl
                  have q103 : f.tmps.getD 103 undef = .slice (some ⟨g, off, none⟩) n cap := hall 20 _ 103 rfl rfl
                  have q104 : f.tmps.getD 104 undef = .int .i64 ((j : Int) + 1) := hall 21 _ 104 rfl rfl
                  have q105 : f.tmps.getD 105 undef = .int .i64 (j : Int) := hall 22 _ 105 rfl rfl
                  have q106 : f.tmps.getD 106 undef = .pointer (some ⟨g, off + j * 2, none⟩) := hall 23 _ 106 rfl rfl
                  have q107 : f.tmps.getD 107 undef = .agg #[.int .u8 (x1 : Int), .int .u64 (x2 : Int)] := hall 24 _ 107 rfl rfl
                  have q108 : f.tmps.getD 108 undef = .slice (some ⟨g, off, none⟩) n cap := hall 25 _ 108 rfl rfl
                  have q109 : f.tmps.getD 109 undef = .int .i64 ((j : Int) + 1) := hall 26 _ 109 rfl rfl
                  have q110 : f.tmps.getD 110 undef = .pointer (some ⟨g, off + (j + 1) * 2, none⟩) := hall 27 _ 110 rfl rfl
                  have q111 : f.tmps.getD 111 undef = .agg #[.int .u8 (y1 : Int), .int .u64 (y2 : Int)] := hall 28 _ 111 rfl rfl
                  have q112 : f.tmps.getD 112 undef = .int .i64 (-1) := hall 29 _ 112 rfl rfl
                  have q113 : f.tmps.getD 113 undef = .bool false := hall 30 _ 113 rfl rfl
                  have q114 : f.tmps.getD 114 undef = .bool false := hall 31 _ 114 rfl rfl
                  obtain rfl := frame_eq hsame [(83, .bool true), (84, .bool true), (85, .agg #[.int .u8 (q1 : Int), .int .u64 (q2 : Int)]), (86, .slice (some ⟨g, off, none⟩) n cap), (87, .int .i64 ((j : Int) + 1)), (88, .pointer (some ⟨g, off + (j + 1) * 2, none⟩)), (89, .agg #[.int .u8 (y1 : Int), .int .u64 (y2 : Int)]), (90, .bool true), (91, .bool true), (92, .bool true), (93, .slice (some ⟨g, off, none⟩) n cap), (94, .int .i64 ((j : Int) + 1)), (95, .int .i64 (j : Int)), (96, .pointer (some ⟨g, off + j * 2, none⟩)), (97, .pointer (some ⟨g, off + j * 2 + 1, none⟩)), (98, .int .u64 (x2 : Int)), (99, .int .u64 1), (100, .bool false), (101, .bool false), (102, .bool false), (103, .slice (some ⟨g, off, none⟩) n cap), (104, .int .i64 ((j : Int) + 1)), (105, .int .i64 (j : Int)), (106, .pointer (some ⟨g, off + j * 2, none⟩)), (107, .agg #[.int .u8 (x1 : Int), .int .u64 (x2 : Int)]), (108, .slice (some ⟨g, off, none⟩) n cap), (109, .int .i64 ((j : Int) + 1)), (110, .pointer (some ⟨g, off + (j + 1) * 2, none⟩)), (111, .agg #[.int .u8 (y1 : Int), .int .u64 (y2 : Int)]), (112, .int .i64 (-1)), (113, .bool false), (114, .bool false)] (by kernel_rfl) ⟨q83, q84, q85, q86, q87, q88, q89, q90, q91, q92, q93, q94, q95, q96, q97, q98, q99, q100, q101, q102, q103, q104, q105, q106, q107, q108, q109, q110, q111, q112, q113, q114, trivial⟩
                  clear hall hsame q83 q84 q85 q86 q87 q88 q89 q90 q91 q92 q93 q94 q95 q96 q97 q98 q99 q100 q101 q102 q103 q104 q105 q106 q107 q108 q109 q110 q111 q112 q113 q114
                  simp only [List.foldl, List.setIfInBounds_toArray, List.set_cons_succ, List.set_cons_zero]
                  have HB := Bx.mk hbel
                  clear hbel
                  go_wp2_with fail
                  go_meet
                  case rel => exact ⟨_, rfl, rfl, HB.out⟩
              · have HQ := Bx.mk hq
                clear hq f1
                refine wp_region_invU (n := 152) (VR17B g off n cap j n10 q1 q2 x1 x2 y1 y2) (by kernel_rfl) (by kernel_rfl) rfl (VR17B_mono g off n cap j n10 q1 q2 x1 x2 y1 y2) ?_ ?_
                · intro oi o hi f u hsame hbel hdep
                  have h10 := (hbel.block _ (Array.getElem?_eq_some_iff.1 X10.out).1).trans X10.out
                  have rx := (RX.out u hbel).1
                  have ry := (RX.out u hbel).2.1
                  have cx2 := (RX.out u hbel).2.2
                  match oi, hi with
                  | 0, hi =>
                    cases (show some _ = some o from hi)
                    have e11 : f.tmps.getD 11 undef = .bool true := hsame.slot 11 (fun _ _ h => invB_not (n := 152) (by kernel_rfl) 11 (by kernel_rfl) h)
                    clear hdep hsame hi
                    exact .inl ⟨wanted_none rfl, shows_move rfl _ rfl e11⟩
                  | 1, hi =>
                    cases (show some _ = some o from hi)
                    have e83 : f.tmps.getD 83 undef = .bool true := dep_of (V := (VR17B g off n cap j n10 q1 q2 x1 x2 y1 y2)) hdep 0 83 (by kernel_rfl) (by kernel_rfl)
                    clear hdep hsame hi
                    exact .inl ⟨wanted_none rfl, shows_move rfl _ rfl e83⟩
                  | 2, hi =>
                    cases (show some _ = some o from hi)
                    have e10 : f.tmps.getD 10 undef = .pointer (some ⟨n10, 0, none⟩) := hsame.slot 10 (fun _ _ h => invB_not (n := 152) (by kernel_rfl) 10 (by kernel_rfl) h)
                    have eg : f.tmps.getD 84 undef = .bool true := dep_of (V := (VR17B g off n cap j n10 q1 q2 x1 x2 y1 y2)) hdep 1 84 (by kernel_rfl) (by kernel_rfl)
                    clear hdep hsame hi
                    exact .inl ⟨wanted_of 1 rfl eg (by kernel_rfl), shows_row rfl 24 (.tmp 10) rfl n10 e10 #[.int .u8 (q1 : Int), .int .u64 (q2 : Int)] h10 Tryd.underlying24 rfl sizeC rfl⟩
                  | 3, hi =>
                    cases (show some _ = some o from hi)
                    have e3 : f.tmps.getD 3 undef = .slice (some ⟨g, off, none⟩) n cap := hsame.slot 3 (fun _ _ h => invB_not (n := 152) (by kernel_rfl) 3 (by kernel_rfl) h)
                    have eg : f.tmps.getD 84 undef = .bool true := dep_of (V := (VR17B g off n cap j n10 q1 q2 x1 x2 y1 y2)) hdep 1 84 (by kernel_rfl) (by kernel_rfl)
                    clear hdep hsame hi
                    exact .inl ⟨wanted_of 1 rfl eg (by kernel_rfl), shows_move rfl _ rfl e3⟩
                  | 4, hi =>
                    cases (show some _ = some o from hi)
                    have e7 : f.tmps.getD 7 undef = .int .i64 ((j : Int) + 1) := hsame.slot 7 (fun _ _ h => invB_not (n := 152) (by kernel_rfl) 7 (by kernel_rfl) h)
                    have eg : f.tmps.getD 84 undef = .bool true := dep_of (V := (VR17B g off n cap j n10 q1 q2 x1 x2 y1 y2)) hdep 1 84 (by kernel_rfl) (by kernel_rfl)
                    clear hdep hsame hi
                    exact .inl ⟨wanted_of 1 rfl eg (by kernel_rfl), shows_move rfl _ rfl e7⟩
                  | 5, hi =>
                    cases (show some _ = some o from hi)
                    have e86 : f.tmps.getD 86 undef = .slice (some ⟨g, off, none⟩) n cap := dep_of (V := (VR17B g off n cap j n10 q1 q2 x1 x2 y1 y2)) hdep 3 86 (by kernel_rfl) (by kernel_rfl)
                    have e87 : f.tmps.getD 87 undef = .int .i64 ((j : Int) + 1) := dep_of (V := (VR17B g off n cap j n10 q1 q2 x1 x2 y1 y2)) hdep 4 87 (by kernel_rfl) (by kernel_rfl)
                    have eg : f.tmps.getD 84 undef = .bool true := dep_of (V := (VR17B g off n cap j n10 q1 q2 x1 x2 y1 y2)) hdep 1 84 (by kernel_rfl) (by kernel_rfl)
                    clear hdep hsame hi
                    have f1 : ¬ (n : Int) ≤ (j : Int) + 1 := by omega
                    have f2 : (j : Int) + 1 < (n : Int) := by omega
                    have f3 : (0 : Int) ≤ (j : Int) + 1 := by omega
                    exact .inl ⟨wanted_of 1 rfl eg (by kernel_rfl), shows_run rfl (.pointer (some ⟨g, off + (j + 1) * 2, none⟩)) (by simp only [execOp, Act.eval]; go_simp) (Below.refl _ _) rfl⟩
                  | 6, hi =>
                    cases (show some _ = some o from hi)
                    have e88 : f.tmps.getD 88 undef = .pointer (some ⟨g, off + (j + 1) * 2, none⟩) := dep_of (V := (VR17B g off n cap j n10 q1 q2 x1 x2 y1 y2)) hdep 5 88 (by kernel_rfl) (by kernel_rfl)
                    have eg : f.tmps.getD 84 undef = .bool true := dep_of (V := (VR17B g off n cap j n10 q1 q2 x1 x2 y1 y2)) hdep 1 84 (by kernel_rfl) (by kernel_rfl)
                    clear hdep hsame hi
                    exact .inl ⟨wanted_of 1 rfl eg (by kernel_rfl), shows_mid rfl 24 (.tmp 88) rfl g (off + (j + 1) * 2) e88 [.int .u8 (y1 : Int), .int .u64 (y2 : Int)] ry Tryd.underlying24 rfl sizeC rfl⟩
                  | 7, hi =>
                    cases (show some _ = some o from hi)
                    have e85 : f.tmps.getD 85 undef = .agg #[.int .u8 (q1 : Int), .int .u64 (q2 : Int)] := dep_of (V := (VR17B g off n cap j n10 q1 q2 x1 x2 y1 y2)) hdep 2 85 (by kernel_rfl) (by kernel_rfl)
                    have e89 : f.tmps.getD 89 undef = .agg #[.int .u8 (y1 : Int), .int .u64 (y2 : Int)] := dep_of (V := (VR17B g off n cap j n10 q1 q2 x1 x2 y1 y2)) hdep 6 89 (by kernel_rfl) (by kernel_rfl)
                    have eg : f.tmps.getD 84 undef = .bool true := dep_of (V := (VR17B g off n cap j n10 q1 q2 x1 x2 y1 y2)) hdep 1 84 (by kernel_rfl) (by kernel_rfl)
                    clear hdep hsame hi
                    have q := fun w => cv_eql w q1 q2 y1 y2
                    rw [decide_eq_false HQ.out] at q
                    exact .inl ⟨wanted_of 1 rfl eg (by kernel_rfl), shows_run rfl (.bool false) (by simp only [execOp, Act.eval]; go_simp) (Below.refl _ _) rfl⟩
                  | 8, hi =>
                    cases (show some _ = some o from hi)
                    have e84 : f.tmps.getD 84 undef = .bool true := dep_of (V := (VR17B g off n cap j n10 q1 q2 x1 x2 y1 y2)) hdep 1 84 (by kernel_rfl) (by kernel_rfl)
                    have e90 : f.tmps.getD 90 undef = .bool false := dep_of (V := (VR17B g off n cap j n10 q1 q2 x1 x2 y1 y2)) hdep 7 90 (by kernel_rfl) (by kernel_rfl)
                    clear hdep hsame hi
                    exact .inl ⟨wanted_none rfl, shows_run rfl (.bool false) (by simp only [execOp, Act.eval]; go_simp) (Below.refl _ _) rfl⟩
                  | 9, hi =>
                    cases (show some _ = some o from hi)
                    have e91 : f.tmps.getD 91 undef = .bool false := dep_of (V := (VR17B g off n cap j n10 q1 q2 x1 x2 y1 y2)) hdep 8 91 (by kernel_rfl) (by kernel_rfl)
                    clear hdep hsame hi
                    exact .inl ⟨wanted_none rfl, shows_move rfl _ rfl e91⟩
                  | 10, hi =>
                    cases (show some _ = some o from hi)
                    have e3 : f.tmps.getD 3 undef = .slice (some ⟨g, off, none⟩) n cap := hsame.slot 3 (fun _ _ h => invB_not (n := 152) (by kernel_rfl) 3 (by kernel_rfl) h)
                    have eg : f.tmps.getD 92 undef = .bool false := dep_of (V := (VR17B g off n cap j n10 q1 q2 x1 x2 y1 y2)) hdep 9 92 (by kernel_rfl) (by kernel_rfl)
                    clear hdep hsame hi
                    exact .inr ⟨unwanted_of 9 rfl eg (by kernel_rfl) (by decide), (fun d h => by cases h; rfl)⟩
                  | 11, hi =>
                    cases (show some _ = some o from hi)
                    have e7 : f.tmps.getD 7 undef = .int .i64 ((j : Int) + 1) := hsame.slot 7 (fun _ _ h => invB_not (n := 152) (by kernel_rfl) 7 (by kernel_rfl) h)
                    have eg : f.tmps.getD 92 undef = .bool false := dep_of (V := (VR17B g off n cap j n10 q1 q2 x1 x2 y1 y2)) hdep 9 92 (by kernel_rfl) (by kernel_rfl)
                    clear hdep hsame hi
                    exact .inr ⟨unwanted_of 9 rfl eg (by kernel_rfl) (by decide), (fun d h => by cases h; rfl)⟩
                  | 12, hi =>
                    cases (show some _ = some o from hi)
                    have e94 : f.tmps.getD 94 undef = undef := dep_of (V := (VR17B g off n cap j n10 q1 q2 x1 x2 y1 y2)) hdep 11 94 (by kernel_rfl) (by kernel_rfl)
                    have eg : f.tmps.getD 92 undef = .bool false := dep_of (V := (VR17B g off n cap j n10 q1 q2 x1 x2 y1 y2)) hdep 9 92 (by kernel_rfl) (by kernel_rfl)
                    clear hdep hsame hi
                    exact .inr ⟨unwanted_of 9 rfl eg (by kernel_rfl) (by decide), (fun d h => by cases h; rfl)⟩
                  | 13, hi =>
                    cases (show some _ = some o from hi)
                    have e93 : f.tmps.getD 93 undef = undef := dep_of (V := (VR17B g off n cap j n10 q1 q2 x1 x2 y1 y2)) hdep 10 93 (by kernel_rfl) (by kernel_rfl)
                    have e95 : f.tmps.getD 95 undef = undef := dep_of (V := (VR17B g off n cap j n10 q1 q2 x1 x2 y1 y2)) hdep 12 95 (by kernel_rfl) (by kernel_rfl)
                    have eg : f.tmps.getD 92 undef = .bool false := dep_of (V := (VR17B g off n cap j n10 q1 q2 x1 x2 y1 y2)) hdep 9 92 (by kernel_rfl) (by kernel_rfl)
                    clear hdep hsame hi
                    exact .inr ⟨unwanted_of 9 rfl eg (by kernel_rfl) (by decide), (fun d h => by cases h; rfl)⟩
                  | 14, hi =>
                    cases (show some _ = some o from hi)
                    have e96 : f.tmps.getD 96 undef = undef := dep_of (V := (VR17B g off n cap j n10 q1 q2 x1 x2 y1 y2)) hdep 13 96 (by kernel_rfl) (by kernel_rfl)
                    have eg : f.tmps.getD 92 undef = .bool false := dep_of (V := (VR17B g off n cap j n10 q1 q2 x1 x2 y1 y2)) hdep 9 92 (by kernel_rfl) (by kernel_rfl)
                    clear hdep hsame hi
                    exact .inr ⟨unwanted_of 9 rfl eg (by kernel_rfl) (by decide), (fun d h => by cases h; rfl)⟩
                  | 15, hi =>
                    cases (show some _ = some o from hi)
                    have e97 : f.tmps.getD 97 undef = undef := dep_of (V := (VR17B g off n cap j n10 q1 q2 x1 x2 y1 y2)) hdep 14 97 (by kernel_rfl) (by kernel_rfl)
                    have eg : f.tmps.getD 92 undef = .bool false := dep_of (V := (VR17B g off n cap j n10 q1 q2 x1 x2 y1 y2)) hdep 9 92 (by kernel_rfl) (by kernel_rfl)
                    clear hdep hsame hi
                    exact .inr ⟨unwanted_of 9 rfl eg (by kernel_rfl) (by decide), (fun d h => by cases h; rfl)⟩
                  | 16, hi =>
                    cases (show some _ = some o from hi)
                    have e98 : f.tmps.getD 98 undef = undef := dep_of (V := (VR17B g off n cap j n10 q1 q2 x1 x2 y1 y2)) hdep 15 98 (by kernel_rfl) (by kernel_rfl)
                    have eg : f.tmps.getD 92 undef = .bool false := dep_of (V := (VR17B g off n cap j n10 q1 q2 x1 x2 y1 y2)) hdep 9 92 (by kernel_rfl) (by kernel_rfl)
                    clear hdep hsame hi
                    exact .inr ⟨unwanted_of 9 rfl eg (by kernel_rfl) (by decide), (fun d h => by cases h; rfl)⟩
                  | 17, hi =>
                    cases (show some _ = some o from hi)
                    have e99 : f.tmps.getD 99 undef = undef := dep_of (V := (VR17B g off n cap j n10 q1 q2 x1 x2 y1 y2)) hdep 16 99 (by kernel_rfl) (by kernel_rfl)
                    have eg : f.tmps.getD 92 undef = .bool false := dep_of (V := (VR17B g off n cap j n10 q1 q2 x1 x2 y1 y2)) hdep 9 92 (by kernel_rfl) (by kernel_rfl)
                    clear hdep hsame hi
                    exact .inr ⟨unwanted_of 9 rfl eg (by kernel_rfl) (by decide), (fun d h => by cases h; rfl)⟩
                  | 18, hi =>
                    cases (show some _ = some o from hi)
                    have e92 : f.tmps.getD 92 undef = .bool false := dep_of (V := (VR17B g off n cap j n10 q1 q2 x1 x2 y1 y2)) hdep 9 92 (by kernel_rfl) (by kernel_rfl)
                    have e100 : f.tmps.getD 100 undef = undef := dep_of (V := (VR17B g off n cap j n10 q1 q2 x1 x2 y1 y2)) hdep 17 100 (by kernel_rfl) (by kernel_rfl)
                    clear hdep hsame hi
                    exact .inl ⟨wanted_none rfl, shows_run rfl (.bool false) (by simp only [execOp, Act.eval]; go_simp) (Below.refl _ _) rfl⟩
                  | 19, hi =>
                    cases (show some _ = some o from hi)
                    have e101 : f.tmps.getD 101 undef = .bool false := dep_of (V := (VR17B g off n cap j n10 q1 q2 x1 x2 y1 y2)) hdep 18 101 (by kernel_rfl) (by kernel_rfl)
                    clear hdep hsame hi
                    exact .inl ⟨wanted_none rfl, shows_move rfl _ rfl e101⟩
                  | 20, hi =>
                    cases (show some _ = some o from hi)
                    have e3 : f.tmps.getD 3 undef = .slice (some ⟨g, off, none⟩) n cap := hsame.slot 3 (fun _ _ h => invB_not (n := 152) (by kernel_rfl) 3 (by kernel_rfl) h)
                    have eg : f.tmps.getD 102 undef = .bool false := dep_of (V := (VR17B g off n cap j n10 q1 q2 x1 x2 y1 y2)) hdep 19 102 (by kernel_rfl) (by kernel_rfl)
                    clear hdep hsame hi
                    exact .inl ⟨wanted_of 19 rfl eg (by kernel_rfl), shows_move rfl _ rfl e3⟩
                  | 21, hi =>
                    cases (show some _ = some o from hi)
                    have e7 : f.tmps.getD 7 undef = .int .i64 ((j : Int) + 1) := hsame.slot 7 (fun _ _ h => invB_not (n := 152) (by kernel_rfl) 7 (by kernel_rfl) h)
                    have eg : f.tmps.getD 102 undef = .bool false := dep_of (V := (VR17B g off n cap j n10 q1 q2 x1 x2 y1 y2)) hdep 19 102 (by kernel_rfl) (by kernel_rfl)
                    clear hdep hsame hi
                    exact .inl ⟨wanted_of 19 rfl eg (by kernel_rfl), shows_move rfl _ rfl e7⟩
                  | 22, hi =>
                    cases (show some _ = some o from hi)
                    have e104 : f.tmps.getD 104 undef = .int .i64 ((j : Int) + 1) := dep_of (V := (VR17B g off n cap j n10 q1 q2 x1 x2 y1 y2)) hdep 21 104 (by kernel_rfl) (by kernel_rfl)
                    have eg : f.tmps.getD 102 undef = .bool false := dep_of (V := (VR17B g off n cap j n10 q1 q2 x1 x2 y1 y2)) hdep 19 102 (by kernel_rfl) (by kernel_rfl)
                    clear hdep hsame hi
                    exact .inl ⟨wanted_of 19 rfl eg (by kernel_rfl), shows_run rfl (.int .i64 (j : Int)) (by simp only [execOp, Act.eval]; go_simp; exact IntWalk.i64_in _ (by omega)) (Below.refl _ _) rfl⟩
                  | 23, hi =>
                    cases (show some _ = some o from hi)
                    have e103 : f.tmps.getD 103 undef = .slice (some ⟨g, off, none⟩) n cap := dep_of (V := (VR17B g off n cap j n10 q1 q2 x1 x2 y1 y2)) hdep 20 103 (by kernel_rfl) (by kernel_rfl)
                    have e105 : f.tmps.getD 105 undef = .int .i64 (j : Int) := dep_of (V := (VR17B g off n cap j n10 q1 q2 x1 x2 y1 y2)) hdep 22 105 (by kernel_rfl) (by kernel_rfl)
                    have eg : f.tmps.getD 102 undef = .bool false := dep_of (V := (VR17B g off n cap j n10 q1 q2 x1 x2 y1 y2)) hdep 19 102 (by kernel_rfl) (by kernel_rfl)
                    clear hdep hsame hi
                    have f1 : ¬ (n : Int) ≤ (j : Int) := by omega
                    have f2 : (j : Int) < (n : Int) := by omega
                    exact .inl ⟨wanted_of 19 rfl eg (by kernel_rfl), shows_run rfl (.pointer (some ⟨g, off + j * 2, none⟩)) (by simp only [execOp, Act.eval]; go_simp) (Below.refl _ _) rfl⟩
                  | 24, hi =>
                    cases (show some _ = some o from hi)
                    have e106 : f.tmps.getD 106 undef = .pointer (some ⟨g, off + j * 2, none⟩) := dep_of (V := (VR17B g off n cap j n10 q1 q2 x1 x2 y1 y2)) hdep 23 106 (by kernel_rfl) (by kernel_rfl)
                    have eg : f.tmps.getD 102 undef = .bool false := dep_of (V := (VR17B g off n cap j n10 q1 q2 x1 x2 y1 y2)) hdep 19 102 (by kernel_rfl) (by kernel_rfl)
                    clear hdep hsame hi
                    exact .inl ⟨wanted_of 19 rfl eg (by kernel_rfl), shows_mid rfl 24 (.tmp 106) rfl g (off + j * 2) e106 [.int .u8 (x1 : Int), .int .u64 (x2 : Int)] rx Tryd.underlying24 rfl sizeC rfl⟩
                  | 25, hi =>
                    cases (show some _ = some o from hi)
                    have e3 : f.tmps.getD 3 undef = .slice (some ⟨g, off, none⟩) n cap := hsame.slot 3 (fun _ _ h => invB_not (n := 152) (by kernel_rfl) 3 (by kernel_rfl) h)
                    have eg : f.tmps.getD 102 undef = .bool false := dep_of (V := (VR17B g off n cap j n10 q1 q2 x1 x2 y1 y2)) hdep 19 102 (by kernel_rfl) (by kernel_rfl)
                    clear hdep hsame hi
                    exact .inl ⟨wanted_of 19 rfl eg (by kernel_rfl), shows_move rfl _ rfl e3⟩
                  | 26, hi =>
                    cases (show some _ = some o from hi)
                    have e7 : f.tmps.getD 7 undef = .int .i64 ((j : Int) + 1) := hsame.slot 7 (fun _ _ h => invB_not (n := 152) (by kernel_rfl) 7 (by kernel_rfl) h)
                    have eg : f.tmps.getD 102 undef = .bool false := dep_of (V := (VR17B g off n cap j n10 q1 q2 x1 x2 y1 y2)) hdep 19 102 (by kernel_rfl) (by kernel_rfl)
                    clear hdep hsame hi
                    exact .inl ⟨wanted_of 19 rfl eg (by kernel_rfl), shows_move rfl _ rfl e7⟩
                  | 27, hi =>
                    cases (show some _ = some o from hi)
                    have e108 : f.tmps.getD 108 undef = .slice (some ⟨g, off, none⟩) n cap := dep_of (V := (VR17B g off n cap j n10 q1 q2 x1 x2 y1 y2)) hdep 25 108 (by kernel_rfl) (by kernel_rfl)
                    have e109 : f.tmps.getD 109 undef = .int .i64 ((j : Int) + 1) := dep_of (V := (VR17B g off n cap j n10 q1 q2 x1 x2 y1 y2)) hdep 26 109 (by kernel_rfl) (by kernel_rfl)
                    have eg : f.tmps.getD 102 undef = .bool false := dep_of (V := (VR17B g off n cap j n10 q1 q2 x1 x2 y1 y2)) hdep 19 102 (by kernel_rfl) (by kernel_rfl)
                    clear hdep hsame hi
                    have f1 : ¬ (n : Int) ≤ (j : Int) + 1 := by omega
                    have f2 : (j : Int) + 1 < (n : Int) := by omega
                    have f3 : (0 : Int) ≤ (j : Int) + 1 := by omega
                    exact .inl ⟨wanted_of 19 rfl eg (by kernel_rfl), shows_run rfl (.pointer (some ⟨g, off + (j + 1) * 2, none⟩)) (by simp only [execOp, Act.eval]; go_simp) (Below.refl _ _) rfl⟩
                  | 28, hi =>
                    cases (show some _ = some o from hi)
                    have e110 : f.tmps.getD 110 undef = .pointer (some ⟨g, off + (j + 1) * 2, none⟩) := dep_of (V := (VR17B g off n cap j n10 q1 q2 x1 x2 y1 y2)) hdep 27 110 (by kernel_rfl) (by kernel_rfl)
                    have eg : f.tmps.getD 102 undef = .bool false := dep_of (V := (VR17B g off n cap j n10 q1 q2 x1 x2 y1 y2)) hdep 19 102 (by kernel_rfl) (by kernel_rfl)
                    clear hdep hsame hi
                    exact .inl ⟨wanted_of 19 rfl eg (by kernel_rfl), shows_mid rfl 24 (.tmp 110) rfl g (off + (j + 1) * 2) e110 [.int .u8 (y1 : Int), .int .u64 (y2 : Int)] ry Tryd.underlying24 rfl sizeC rfl⟩
                  | 29, hi =>
                    cases (show some _ = some o from hi)
                    have e107 : f.tmps.getD 107 undef = .agg #[.int .u8 (x1 : Int), .int .u64 (x2 : Int)] := dep_of (V := (VR17B g off n cap j n10 q1 q2 x1 x2 y1 y2)) hdep 24 107 (by kernel_rfl) (by kernel_rfl)
                    have e111 : f.tmps.getD 111 undef = .agg #[.int .u8 (y1 : Int), .int .u64 (y2 : Int)] := dep_of (V := (VR17B g off n cap j n10 q1 q2 x1 x2 y1 y2)) hdep 28 111 (by kernel_rfl) (by kernel_rfl)
                    have eg : f.tmps.getD 102 undef = .bool false := dep_of (V := (VR17B g off n cap j n10 q1 q2 x1 x2 y1 y2)) hdep 19 102 (by kernel_rfl) (by kernel_rfl)
                    clear hdep hsame hi
                    have c := CM.out u
                    unfold cv at c
                    exact .inl ⟨wanted_of 19 rfl eg (by kernel_rfl), shows_call rfl 12 #[.agg #[.int .u8 (x1 : Int), .int .u64 (x2 : Int)], .agg #[.int .u8 (y1 : Int), .int .u64 (y2 : Int)]] (by simp only [execOp, Act.eval]; go_simp) (c) (fun _ => rfl)⟩
                  | 30, hi =>
                    cases (show some _ = some o from hi)
                    have e112 : f.tmps.getD 112 undef = .int .i64 (-1) := dep_of (V := (VR17B g off n cap j n10 q1 q2 x1 x2 y1 y2)) hdep 29 112 (by kernel_rfl) (by kernel_rfl)
                    have eg : f.tmps.getD 102 undef = .bool false := dep_of (V := (VR17B g off n cap j n10 q1 q2 x1 x2 y1 y2)) hdep 19 102 (by kernel_rfl) (by kernel_rfl)
                    clear hdep hsame hi
                    exact .inl ⟨wanted_of 19 rfl eg (by kernel_rfl), shows_run rfl (.bool false) (by simp only [execOp, Act.eval]; go_simp) (Below.refl _ _) rfl⟩
                  | 31, hi =>
                    cases (show some _ = some o from hi)
                    have e102 : f.tmps.getD 102 undef = .bool false := dep_of (V := (VR17B g off n cap j n10 q1 q2 x1 x2 y1 y2)) hdep 19 102 (by kernel_rfl) (by kernel_rfl)
                    have e113 : f.tmps.getD 113 undef = .bool false := dep_of (V := (VR17B g off n cap j n10 q1 q2 x1 x2 y1 y2)) hdep 30 113 (by kernel_rfl) (by kernel_rfl)
                    clear hdep hsame hi
                    exact .inl ⟨wanted_none rfl, shows_run rfl (.bool false) (by simp only [execOp, Act.eval]; go_simp) (Below.refl _ _) rfl⟩
                  | n + 32, hi => exact absurd hi (by simp)
                · intro f u hsame hbel hall
                  have q83 : f.tmps.getD 83 undef = .bool true := hall 0 _ 83 rfl rfl
                  have q84 : f.tmps.getD 84 undef = .bool true := hall 1 _ 84 rfl rfl
                  have q85 : f.tmps.getD 85 undef = .agg #[.int .u8 (q1 : Int), .int .u64 (q2 : Int)] := hall 2 _ 85 rfl rfl
                  have q86 : f.tmps.getD 86 undef = .slice (some ⟨g, off, none⟩) n cap := hall 3 _ 86 rfl rfl
                  have q87 : f.tmps.getD 87 undef = .int .i64 ((j : Int) + 1) := hall 4 _ 87 rfl rfl
                  have q88 : f.tmps.getD 88 undef = .pointer (some ⟨g, off + (j + 1) * 2, none⟩) := hall 5 _ 88 rfl rfl
                  have q89 : f.tmps.getD 89 undef = .agg #[.int .u8 (y1 : Int), .int .u64 (y2 : Int)] := hall 6 _ 89 rfl rfl
                  have q90 : f.tmps.getD 90 undef = .bool false := hall 7 _ 90 rfl rfl
                  have q91 : f.tmps.getD 91 undef = .bool false := hall 8 _ 91 rfl rfl
                  have q92 : f.tmps.getD 92 undef = .bool false := hall 9 _ 92 rfl rfl
                  have q93 : f.tmps.getD 93 undef = undef := hall 10 _ 93 rfl rfl
                  have q94 : f.tmps.getD 94 undef = undef := hall 11 _ 94 rfl rfl
                  have q95 : f.tmps.getD 95 undef = undef := hall 12 _ 95 rfl rfl
                  have q96 : f.tmps.getD 96 undef = undef := hall 13 _ 96 rfl rfl
                  have q97 : f.tmps.getD 97 undef = undef := hall 14 _ 97 rfl rfl
                  have q98 : f.tmps.getD 98 undef = undef := hall 15 _ 98 rfl rfl
                  have q99 : f.tmps.getD 99 undef = undef := hall 16 _ 99 rfl rfl
                  have q100 : f.tmps.getD 100 undef = undef := hall 17 _ 100 rfl rfl
                  have q101 : f.tmps.getD 101 undef = .bool false := hall 18 _ 101 rfl rfl
                  have q102 : f.tmps.getD 102 undef = .bool false := hall 19 _ 102 rfl rfl
                  have q103 : f.tmps.getD 103 undef = .slice (some ⟨g, off, none⟩) n cap := hall 20 _ 103 rfl rfl
                  have q104 : f.tmps.getD 104 undef = .int .i64 ((j : Int) + 1) := hall 21 _ 104 rfl rfl
                  have q105 : f.tmps.getD 105 undef = .int .i64 (j : Int) := hall 22 _ 105 rfl rfl
                  have q106 : f.tmps.getD 106 undef = .pointer (some ⟨g, off + j * 2, none⟩) := hall 23 _ 106 rfl rfl
                  have q107 : f.tmps.getD 107 undef = .agg #[.int .u8 (x1 : Int), .int .u64 (x2 : Int)] := hall 24 _ 107 rfl rfl
                  have q108 : f.tmps.getD 108 undef = .slice (some ⟨g, off, none⟩) n cap := hall 25 _ 108 rfl rfl
                  have q109 : f.tmps.getD 109 undef = .int .i64 ((j : Int) + 1) := hall 26 _ 109 rfl rfl
                  have q110 : f.tmps.getD 110 undef = .pointer (some ⟨g, off + (j + 1) * 2, none⟩) := hall 27 _ 110 rfl rfl
                  have q111 : f.tmps.getD 111 undef = .agg #[.int .u8 (y1 : Int), .int .u64 (y2 : Int)] := hall 28 _ 111 rfl rfl
                  have q112 : f.tmps.getD 112 undef = .int .i64 (-1) := hall 29 _ 112 rfl rfl
                  have q113 : f.tmps.getD 113 undef = .bool false := hall 30 _ 113 rfl rfl
                  have q114 : f.tmps.getD 114 undef = .bool false := hall 31 _ 114 rfl rfl
                  obtain rfl := frame_eq hsame [(83, .bool true), (84, .bool true), (85, .agg #[.int .u8 (q1 : Int), .int .u64 (q2 : Int)]), (86, .slice (some ⟨g, off, none⟩) n cap), (87, .int .i64 ((j : Int) + 1)), (88, .pointer (some ⟨g, off + (j + 1) * 2, none⟩)), (89, .agg #[.int .u8 (y1 : Int), .int .u64 (y2 : Int)]), (90, .bool false), (91, .bool false), (92, .bool false), (93, undef), (94, undef), (95, undef), (96, undef), (97, undef), (98, undef), (99, undef), (100, undef), (101, .bool false), (102, .bool false), (103, .slice (some ⟨g, off, none⟩) n cap), (104, .int .i64 ((j : Int) + 1)), (105, .int .i64 (j : Int)), (106, .pointer (some ⟨g, off + j * 2, none⟩)), (107, .agg #[.int .u8 (x1 : Int), .int .u64 (x2 : Int)]), (108, .slice (some ⟨g, off, none⟩) n cap), (109, .int .i64 ((j : Int) + 1)), (110, .pointer (some ⟨g, off + (j + 1) * 2, none⟩)), (111, .agg #[.int .u8 (y1 : Int), .int .u64 (y2 : Int)]), (112, .int .i64 (-1)), (113, .bool false), (114, .bool false)] (by kernel_rfl) ⟨q83, q84, q85, q86, q87, q88, q89, q90, q91, q92, q93, q94, q95, q96, q97, q98, q99, q100, q101, q102, q103, q104, q105, q106, q107, q108, q109, q110, q111, q112, q113, q114, trivial⟩
                  clear hall hsame q83 q84 q85 q86 q87 q88 q89 q90 q91 q92 q93 q94 q95 q96 q97 q98 q99 q100 q101 q102 q103 q104 q105 q106 q107 q108 q109 q110 q111 q112 q113 q114
                  simp only [List.foldl, List.setIfInBounds_toArray, List.set_cons_succ, List.set_cons_zero]
                  have HB := Bx.mk hbel
                  clear hbel
                  go_wp2_with fail
                  go_meet
                  case rel => exact ⟨_, rfl, rfl, HB.out⟩
          case rest =>
          obtain ⟨wv, rfl, rfl, hb⟩ := hcut
          have k := B5.out.trans (hb.mono B5.out.size)
          have p1 := (k.cell (p := ⟨g, off + j * 2, none⟩) HGL.out).trans X1C.out
          have p3 := (k.cell (p := ⟨g, off + (j + 1) * 2, none⟩) HGL.out).trans Y1C.out
          have KW := Bx.mk k
          clear hb k f1 RX X10 B5 CS CM RS X2C Y2C
          have hs : IntKind.i64.wrap ((j : Int) + 1 - 1) = (j : Int) := by rw [show (j : Int) + 1 - 1 = (j : Int) by omega]; exact IntWalk.i64_in _ (by omega)
          have f5 : (j : Int) + 1 < (n : Int) := by omega
          have f6 : (j : Int) < (n : Int) := by omega
          by_cases hgt : (x1 : Int) < (y1 : Int)
          · obtain rfl : fl = false := by
              cases fl
              · rfl
              · have := (LN.out (HOK.out rfl)).1
                omega
            have g1 : ¬ (y1 : Int) ≤ (x1 : Int) := by omega
            have g2 : decide (y1 ≤ x1) = false := decide_eq_false (by omega)
            have g3 : decide (x1 < y1) = true := decide_eq_true (by omega)
            go_wp2_with fail
            go_quiet (fail)
            go_wp2_with fail
            go_quiet (fail)
            go_wp2_with fail
            go_roundw
            case rel => exact ⟨j + 2, false, by omega, by go_num, by rw [HNB.out, HNBB.out], rfl, (fun h => by cases h), below_drewN KW.out _⟩
            case measure => simp [intOf]; omega
          · have g1 : (y1 : Int) ≤ (x1 : Int) := by omega
            have g2 : decide (y1 ≤ x1) = true := decide_eq_true (by omega)
            have g3 : decide (x1 < y1) = false := decide_eq_false (by omega)
            have hL := LF.out (by omega)
            have HL := Bx.mk hL
            clear hL
            cases fl
            · go_wp2_with fail
              go_quiet (fail)
              go_wp2_with fail
              go_quiet (fail)
              go_wp2_with fail
              go_roundw
              case rel => exact ⟨j + 2, true, by omega, by go_num, by rw [HNB.out, HNBB.out], rfl, (fun _ => ⟨j + 1, rfl, by rw [HBB.out]; exact HL.out⟩), below_drewN KW.out _⟩
              case measure => simp [intOf]; omega
            · go_wp2_with fail
              go_quiet (fail)
              go_wp2_with fail
              go_quiet (fail)
              go_wp2_with fail
              go_roundw
              case rel => exact ⟨j + 2, true, by omega, by go_num, by rw [HNB.out, HNBB.out], rfl, (fun _ => ⟨j + 1, rfl, by rw [HBB.out]; exact HL.out⟩), below_drewN KW.out _⟩
              case measure => simp [intOf]; omega
      · obtain rfl : t = n := by omega
        rw [HEND.out]
        clear hlt ht
        go_wp2_with fail
        refine (alive_any wr SR.out.tab SR.out.lt).mono ?_
        rintro e w2 ⟨rfl, hb⟩
        have K2 := Bx.mk (SR.out.next hb).below
        clear hb
        go_wp2_with fail
        go_ret
        exact ⟨rfl, K2.out⟩
end Go.Proofs.YtifnmidecjmmnaaDoor
