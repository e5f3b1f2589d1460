/- cartularylaw18.broken. -/
import Derived.Test.YtmlpldkgennmkaaDoorBnc
import Derived.Test.YtmlpldkgennmkaaDoorInvU
import Derived.Test.YtmlpldkgennmkaaDoorVv
namespace Go.Proofs.YtmlpldkgennmkaaDoor
set_option maxRecDepth 100000
open Go.RowKit
/-- do two rows of pairs have two that are unlike, of one node, at one place? -/
def brokenB : List (List UInt8 × List UInt8) → List (List UInt8 × List UInt8) → Bool
  | x :: a, y :: b => (!(x.1 == y.1 && x.2 == y.2) && nd x.1 x.2 == nd y.1 y.2) || brokenB a b
  | _, _ => false
theorem brokenB_of : ∀ {a b : List (List UInt8 × List UInt8)}, BrokenP nd a b → brokenB a b = true
  | [], _, ⟨i, h, _⟩ => absurd h (Nat.not_lt_zero _)
  | _ :: _, [], ⟨i, _, h, _⟩ => absurd h (Nat.not_lt_zero _)
  | x :: a, y :: b, ⟨i, h, h', hn, he⟩ => by
    rw [brokenB, Bool.or_eq_true]
    cases i with
    | zero =>
      left
      simp only [List.getElem_cons_zero] at hn he
      rw [Bool.and_eq_true]
      refine ⟨?_, by simpa using he⟩
      have : ¬ (x.1 = y.1 ∧ x.2 = y.2) := fun e => hn (Prod.ext e.1 e.2)
      rw [Bool.not_eq_true']
      exact Bool.eq_false_iff.2 (fun h => this (by simpa using h))
    | succ i =>
      right
      exact brokenB_of ⟨i, by simpa using h, by simpa using h', by simpa using hn, by simpa using he⟩
theorem brokenB_drop (a b : List (List UInt8 × List UInt8)) (t : Nat) (h : t < a.length) (h' : t < b.length) : brokenB (a.drop t) (b.drop t) = ((!(a[t].1 == b[t].1 && a[t].2 == b[t].2) && nd a[t].1 a[t].2 == nd b[t].1 b[t].2) || brokenB (a.drop (t + 1)) (b.drop (t + 1))) := by
  rw [List.drop_eq_getElem_cons h, List.drop_eq_getElem_cons h']
  rfl
theorem pcell_eq (x y : List UInt8) : (bcells x ++ bcells y).toArray = ocells x ++ ocells y := by simp [ocells]
def VBrn (g1 g2 l c1 c2 t : Nat) (x1 x2 y1 y2 : List UInt8) (r : Bool) (sl : Nat) (v : Value) (_w : World) : Prop :=
  match sl with
  | 18 => v = .slice (some ⟨g1, 0, none⟩) l c1
  | 19 => v = .int .i64 (t : Int)
  | 20 => v = .pointer (some ⟨g1, t * 64, none⟩)
  | 21 => v = .agg (bcells x1 ++ bcells x2).toArray
  | 22 => v = .slice (some ⟨g2, 0, none⟩) l c2
  | 23 => v = .int .i64 (t : Int)
  | 24 => v = .pointer (some ⟨g2, t * 64, none⟩)
  | 25 => v = .agg (bcells y1 ++ bcells y2).toArray
  | 26 => v = .bool true
  | 27 => v = .bool true
  | 28 => v = .slice (some ⟨g1, 0, none⟩) l c1
  | 29 => v = .int .i64 (t : Int)
  | 30 => v = .pointer (some ⟨g1, t * 64, none⟩)
  | 31 => v = .pointer (some ⟨g1, t * 64, none⟩)
  | 32 => v = .agg (ocells (x1))
  | 33 => v = .slice (some ⟨g1, 0, none⟩) l c1
  | 34 => v = .int .i64 (t : Int)
  | 35 => v = .pointer (some ⟨g1, t * 64, none⟩)
  | 36 => v = .pointer (some ⟨g1, t * 64 + 32, none⟩)
  | 37 => v = .agg (ocells (x2))
  | 38 => v = .agg (ocells (nd x1 x2))
  | 39 => v = .slice (some ⟨g2, 0, none⟩) l c2
  | 40 => v = .int .i64 (t : Int)
  | 41 => v = .pointer (some ⟨g2, t * 64, none⟩)
  | 42 => v = .pointer (some ⟨g2, t * 64, none⟩)
  | 43 => v = .agg (ocells (y1))
  | 44 => v = .slice (some ⟨g2, 0, none⟩) l c2
  | 45 => v = .int .i64 (t : Int)
  | 46 => v = .pointer (some ⟨g2, t * 64, none⟩)
  | 47 => v = .pointer (some ⟨g2, t * 64 + 32, none⟩)
  | 48 => v = .agg (ocells (y2))
  | 49 => v = .agg (ocells (nd y1 y2))
  | 50 => v = .bool r
  | 51 => v = .bool r
  | _ => True
theorem VBrn_mono (g1 g2 l c1 c2 t : Nat) (x1 x2 y1 y2 : List UInt8) (r : Bool) (sl : Nat) (v : Value) (w w' : World) (h : VBrn g1 g2 l c1 c2 t x1 x2 y1 y2 r sl v w) (_k : Below w.heap.size w w') : VBrn g1 g2 l c1 c2 t x1 x2 y1 y2 r sl v w' := by
  unfold VBrn at h ⊢
  split at h
  · exact h
  · exact h
  · exact h
  · exact h
  · exact h
  · exact h
  · exact h
  · exact h
  · exact h
  · exact h
  · exact h
  · exact h
  · exact h
  · exact h
  · exact h
  · exact h
  · exact h
  · exact h
  · exact h
  · exact h
  · exact h
  · exact h
  · exact h
  · exact h
  · exact h
  · exact h
  · exact h
  · exact h
  · exact h
  · exact h
  · exact h
  · exact h
  · exact h
  · exact h
  · trivial

def VBre (g1 g2 l c1 c2 t : Nat) (x1 x2 y1 y2 : List UInt8) (_r : Bool) (sl : Nat) (v : Value) (_w : World) : Prop :=
  match sl with
  | 18 => v = .slice (some ⟨g1, 0, none⟩) l c1
  | 19 => v = .int .i64 (t : Int)
  | 20 => v = .pointer (some ⟨g1, t * 64, none⟩)
  | 21 => v = .agg (bcells x1 ++ bcells x2).toArray
  | 22 => v = .slice (some ⟨g2, 0, none⟩) l c2
  | 23 => v = .int .i64 (t : Int)
  | 24 => v = .pointer (some ⟨g2, t * 64, none⟩)
  | 25 => v = .agg (bcells y1 ++ bcells y2).toArray
  | 26 => v = .bool false
  | 27 => v = .bool false
  | 28 => v = undef
  | 29 => v = undef
  | 30 => v = undef
  | 31 => v = undef
  | 32 => v = undef
  | 33 => v = undef
  | 34 => v = undef
  | 35 => v = undef
  | 36 => v = undef
  | 37 => v = undef
  | 38 => v = undef
  | 39 => v = undef
  | 40 => v = undef
  | 41 => v = undef
  | 42 => v = undef
  | 43 => v = undef
  | 44 => v = undef
  | 45 => v = undef
  | 46 => v = undef
  | 47 => v = undef
  | 48 => v = undef
  | 49 => v = undef
  | 50 => v = undef
  | 51 => v = .bool false
  | _ => True
theorem VBre_mono (g1 g2 l c1 c2 t : Nat) (x1 x2 y1 y2 : List UInt8) (r : Bool) (sl : Nat) (v : Value) (w w' : World) (h : VBre g1 g2 l c1 c2 t x1 x2 y1 y2 r sl v w) (_k : Below w.heap.size w w') : VBre g1 g2 l c1 c2 t x1 x2 y1 y2 r sl v w' := by
  unfold VBre at h ⊢
  split at h
  · exact h
  · exact h
  · exact h
  · exact h
  · exact h
  · exact h
  · exact h
  · exact h
  · exact h
  · exact h
  · exact h
  · exact h
  · exact h
  · exact h
  · exact h
  · exact h
  · exact h
  · exact h
  · exact h
  · exact h
  · exact h
  · exact h
  · exact h
  · exact h
  · exact h
  · exact h
  · exact h
  · exact h
  · exact h
  · exact h
  · exact h
  · exact h
  · exact h
  · exact h
  · trivial

set_option maxHeartbeats 6400000 in
theorem broken_any (w : World) (l b1 b2 : Nat) (v1 v2 : Value) (l1 l2 : List (List UInt8 × List UInt8)) (h1 : w.ownsRow b1 55 64 v1 l (pcs l1)) (h2 : w.ownsRow b2 55 64 v2 l (pcs l2)) (k1 : P32 l1) (k2 : P32 l2) (n1 : l = l1.length) (n2 : l = l2.length) (hm : l ≤ 1048576) (hT : TabS w) :
    Calls Tryd.prog 23 #[v1, v2] w fun e w' => e = .returned (.bool (brokenB l1 l2)) ∧ Below w.heap.size w w' := by
  obtain ⟨a1, c1, rfl, d1, d2, d3⟩ := own_shape h1
  obtain ⟨a2, c2, rfl, d4, d5, d6⟩ := own_shape h2
  have H1 := Bx.mk h1; have H2 := Bx.mk h2; have K1 := Bx.mk k1; have K2 := Bx.mk k2; have N1 := Bx.mk n1; have N2 := Bx.mk n2; have HT := Bx.mk hT
  clear h1 h2 k1 k2 n1 n2 hT d1 d2 d3 d4 d5 d6
  go_enter Tryd.func23, Tryd.ntmps23
  go_wp2_with fail
  go_loopw [5] (fun iv wr => ∃ t : Nat, t ≤ l ∧ iv = .int .i64 (t : Int) ∧ brokenB l1 l2 = brokenB (l1.drop t) (l2.drop t) ∧ Below w.heap.size w wr) (fun iv _ => l - (intOf iv).toNat)
  case atStart => exact ⟨0, Nat.zero_le _, rfl, rfl, Below.refl _ _⟩
  case round =>
    obtain ⟨t, ht, rfl, hbr, hb⟩ := hrel
    have BW := Bx.mk hb; have HBR := Bx.mk hbr
    clear hb hbr
    by_cases hlt : t < l
    · have t1 : t < l1.length := by rw [← N1.out]; exact hlt
      have t2 : t < l2.length := by rw [← N2.out]; exact hlt
      obtain ⟨g1, c, e, _, hg1, r1, r2, r3⟩ := pairs_at H1.out K1.out N1.out t t1
      cases e
      obtain ⟨g2, c', e, _, hg2, r4, r5, r6⟩ := pairs_at H2.out K2.out N2.out t t2
      cases e
      have hdr := brokenB_drop l1 l2 t t1 t2
      have x32 := K1.out _ (List.getElem_mem t1)
      have y32 := K2.out _ (List.getElem_mem t2)
      generalize l1[t] = x at r1 r2 r3 hdr x32
      generalize l2[t] = y at r4 r5 r6 hdr y32
      obtain ⟨x1, x2⟩ := x
      obtain ⟨y1, y2⟩ := y
      simp only at r1 r2 r3 r4 r5 r6 hdr x32 y32
      have X1 := Bx.mk x32.1; have X2 := Bx.mk x32.2; have Y1 := Bx.mk y32.1; have Y2 := Bx.mk y32.2; have HDR := Bx.mk hdr; have HLT := Bx.mk hlt
      have RP1 := Bx.mk (fun u (hu : Below wr.heap.size wr u) => rangeAt_below r1 hg1 (BW.out.trans (hu.mono BW.out.size)))
      have RA1 := Bx.mk (fun u (hu : Below wr.heap.size wr u) => rangeAt_below r2 hg1 (BW.out.trans (hu.mono BW.out.size)))
      have RA2 := Bx.mk (fun u (hu : Below wr.heap.size wr u) => rangeAt_below r3 hg1 (BW.out.trans (hu.mono BW.out.size)))
      have RP2 := Bx.mk (fun u (hu : Below wr.heap.size wr u) => rangeAt_below r4 hg2 (BW.out.trans (hu.mono BW.out.size)))
      have RB1 := Bx.mk (fun u (hu : Below wr.heap.size wr u) => rangeAt_below r5 hg2 (BW.out.trans (hu.mono BW.out.size)))
      have RB2 := Bx.mk (fun u (hu : Below wr.heap.size wr u) => rangeAt_below r6 hg2 (BW.out.trans (hu.mono BW.out.size)))
      have hq := fun u => neq_pair u x1 x2 y1 y2 x32.1 x32.2 y32.1 y32.2
      simp only [← pcell_eq] at hq
      have hr := fun u => hv_eq u (nd x1 x2) (nd y1 y2) (nd_length _ _) (nd_length _ _)
      simp only [hv_agg] at hr
      generalize (nd x1 x2 == nd y1 y2) = r at hr HDR
      generalize (x1 == y1 && x2 == y2) = e at hq HDR
      have HQ := Bx.mk hq; have HR := Bx.mk hr
      clear r1 r2 r3 r4 r5 r6 hg1 hg2 hdr x32 y32 t1 t2 hq hr
      cases e
      · simp only [Bool.not_false] at HQ
        go_upto_region 4 with (fail)
        refine wp_region_invU (n := 52) (VBrn g1 g2 l c1 c2 t x1 x2 y1 y2 r) (by kernel_rfl) (by kernel_rfl) rfl (VBrn_mono g1 g2 l c1 c2 t x1 x2 y1 y2 r) ?_ ?_
        · intro oi o hi f u hsame hbel hdep
          have hb6 := hbel
          match oi, hi with
          | 0, hi =>
            cases (show some _ = some o from hi)
            have e0 : f.tmps.getD 0 undef = .slice (some ⟨g1, 0, none⟩) l c1 := hsame.slot 0 (fun _ _ h => invB_not (n := 52) (by kernel_rfl) 0 (by kernel_rfl) h)
            clear hdep hsame hi
            exact .inl ⟨wanted_none rfl, shows_move rfl _ rfl e0⟩
          | 1, hi =>
            cases (show some _ = some o from hi)
            have e5 : f.tmps.getD 5 undef = .int .i64 (t : Int) := hsame.slot 5 (fun _ _ h => invB_not (n := 52) (by kernel_rfl) 5 (by kernel_rfl) h)
            clear hdep hsame hi
            exact .inl ⟨wanted_none rfl, shows_move rfl _ rfl e5⟩
          | 2, hi =>
            cases (show some _ = some o from hi)
            have e18 : f.tmps.getD 18 undef = .slice (some ⟨g1, 0, none⟩) l c1 := dep_of (V := (VBrn g1 g2 l c1 c2 t x1 x2 y1 y2 r)) hdep 0 18 (by kernel_rfl) (by kernel_rfl)
            have e19 : f.tmps.getD 19 undef = .int .i64 (t : Int) := dep_of (V := (VBrn g1 g2 l c1 c2 t x1 x2 y1 y2 r)) hdep 1 19 (by kernel_rfl) (by kernel_rfl)
            clear hdep hsame hi
            have hlt := HLT.out
            exact .inl ⟨wanted_none rfl, shows_run rfl (.pointer (some ⟨g1, t * 64, none⟩)) (by simp only [execOp, Act.eval]; go_simp) (Below.refl _ _) rfl⟩
          | 3, hi =>
            cases (show some _ = some o from hi)
            have e20 : f.tmps.getD 20 undef = .pointer (some ⟨g1, t * 64, none⟩) := dep_of (V := (VBrn g1 g2 l c1 c2 t x1 x2 y1 y2 r)) hdep 2 20 (by kernel_rfl) (by kernel_rfl)
            clear hdep hsame hi
            exact .inl ⟨wanted_none rfl, shows_mid rfl 55 (.tmp 20) rfl g1 (t * 64) e20 (bcells x1 ++ bcells x2) (RP1.out u hb6) underP rfl (pszL X1.out X2.out) rfl⟩
          | 4, hi =>
            cases (show some _ = some o from hi)
            have e1 : f.tmps.getD 1 undef = .slice (some ⟨g2, 0, none⟩) l c2 := hsame.slot 1 (fun _ _ h => invB_not (n := 52) (by kernel_rfl) 1 (by kernel_rfl) h)
            clear hdep hsame hi
            exact .inl ⟨wanted_none rfl, shows_move rfl _ rfl e1⟩
          | 5, hi =>
            cases (show some _ = some o from hi)
            have e5 : f.tmps.getD 5 undef = .int .i64 (t : Int) := hsame.slot 5 (fun _ _ h => invB_not (n := 52) (by kernel_rfl) 5 (by kernel_rfl) h)
            clear hdep hsame hi
            exact .inl ⟨wanted_none rfl, shows_move rfl _ rfl e5⟩
          | 6, hi =>
            cases (show some _ = some o from hi)
            have e22 : f.tmps.getD 22 undef = .slice (some ⟨g2, 0, none⟩) l c2 := dep_of (V := (VBrn g1 g2 l c1 c2 t x1 x2 y1 y2 r)) hdep 4 22 (by kernel_rfl) (by kernel_rfl)
            have e23 : f.tmps.getD 23 undef = .int .i64 (t : Int) := dep_of (V := (VBrn g1 g2 l c1 c2 t x1 x2 y1 y2 r)) hdep 5 23 (by kernel_rfl) (by kernel_rfl)
            clear hdep hsame hi
            have hlt := HLT.out
            exact .inl ⟨wanted_none rfl, shows_run rfl (.pointer (some ⟨g2, t * 64, none⟩)) (by simp only [execOp, Act.eval]; go_simp) (Below.refl _ _) rfl⟩
          | 7, hi =>
            cases (show some _ = some o from hi)
            have e24 : f.tmps.getD 24 undef = .pointer (some ⟨g2, t * 64, none⟩) := dep_of (V := (VBrn g1 g2 l c1 c2 t x1 x2 y1 y2 r)) hdep 6 24 (by kernel_rfl) (by kernel_rfl)
            clear hdep hsame hi
            exact .inl ⟨wanted_none rfl, shows_mid rfl 55 (.tmp 24) rfl g2 (t * 64) e24 (bcells y1 ++ bcells y2) (RP2.out u hb6) underP rfl (pszL Y1.out Y2.out) rfl⟩
          | 8, hi =>
            cases (show some _ = some o from hi)
            have e21 : f.tmps.getD 21 undef = .agg (bcells x1 ++ bcells x2).toArray := dep_of (V := (VBrn g1 g2 l c1 c2 t x1 x2 y1 y2 r)) hdep 3 21 (by kernel_rfl) (by kernel_rfl)
            have e25 : f.tmps.getD 25 undef = .agg (bcells y1 ++ bcells y2).toArray := dep_of (V := (VBrn g1 g2 l c1 c2 t x1 x2 y1 y2 r)) hdep 7 25 (by kernel_rfl) (by kernel_rfl)
            clear hdep hsame hi
            have q := HQ.out
            exact .inl ⟨wanted_none rfl, shows_run rfl (.bool true) (by simp only [execOp, Act.eval]; go_simp) (Below.refl _ _) rfl⟩
          | 9, hi =>
            cases (show some _ = some o from hi)
            have e26 : f.tmps.getD 26 undef = .bool true := dep_of (V := (VBrn g1 g2 l c1 c2 t x1 x2 y1 y2 r)) hdep 8 26 (by kernel_rfl) (by kernel_rfl)
            clear hdep hsame hi
            exact .inl ⟨wanted_none rfl, shows_move rfl _ rfl e26⟩
          | 10, hi =>
            cases (show some _ = some o from hi)
            have e0 : f.tmps.getD 0 undef = .slice (some ⟨g1, 0, none⟩) l c1 := hsame.slot 0 (fun _ _ h => invB_not (n := 52) (by kernel_rfl) 0 (by kernel_rfl) h)
            have eg : f.tmps.getD 27 undef = .bool true := dep_of (V := (VBrn g1 g2 l c1 c2 t x1 x2 y1 y2 r)) hdep 9 27 (by kernel_rfl) (by kernel_rfl)
            clear hdep hsame hi
            exact .inl ⟨wanted_of 9 rfl eg (by kernel_rfl), shows_move rfl _ rfl e0⟩
          | 11, hi =>
            cases (show some _ = some o from hi)
            have e5 : f.tmps.getD 5 undef = .int .i64 (t : Int) := hsame.slot 5 (fun _ _ h => invB_not (n := 52) (by kernel_rfl) 5 (by kernel_rfl) h)
            have eg : f.tmps.getD 27 undef = .bool true := dep_of (V := (VBrn g1 g2 l c1 c2 t x1 x2 y1 y2 r)) hdep 9 27 (by kernel_rfl) (by kernel_rfl)
            clear hdep hsame hi
            exact .inl ⟨wanted_of 9 rfl eg (by kernel_rfl), shows_move rfl _ rfl e5⟩
          | 12, hi =>
            cases (show some _ = some o from hi)
            have e28 : f.tmps.getD 28 undef = .slice (some ⟨g1, 0, none⟩) l c1 := dep_of (V := (VBrn g1 g2 l c1 c2 t x1 x2 y1 y2 r)) hdep 10 28 (by kernel_rfl) (by kernel_rfl)
            have e29 : f.tmps.getD 29 undef = .int .i64 (t : Int) := dep_of (V := (VBrn g1 g2 l c1 c2 t x1 x2 y1 y2 r)) hdep 11 29 (by kernel_rfl) (by kernel_rfl)
            have eg : f.tmps.getD 27 undef = .bool true := dep_of (V := (VBrn g1 g2 l c1 c2 t x1 x2 y1 y2 r)) hdep 9 27 (by kernel_rfl) (by kernel_rfl)
            clear hdep hsame hi
            have hlt := HLT.out
            exact .inl ⟨wanted_of 9 rfl eg (by kernel_rfl), shows_run rfl (.pointer (some ⟨g1, t * 64, none⟩)) (by simp only [execOp, Act.eval]; go_simp) (Below.refl _ _) rfl⟩
          | 13, hi =>
            cases (show some _ = some o from hi)
            have e30 : f.tmps.getD 30 undef = .pointer (some ⟨g1, t * 64, none⟩) := dep_of (V := (VBrn g1 g2 l c1 c2 t x1 x2 y1 y2 r)) hdep 12 30 (by kernel_rfl) (by kernel_rfl)
            have eg : f.tmps.getD 27 undef = .bool true := dep_of (V := (VBrn g1 g2 l c1 c2 t x1 x2 y1 y2 r)) hdep 9 27 (by kernel_rfl) (by kernel_rfl)
            clear hdep hsame hi
            exact .inl ⟨wanted_of 9 rfl eg (by kernel_rfl), shows_run rfl (.pointer (some ⟨g1, t * 64, none⟩)) (by simp only [execOp, Act.eval]; go_simp) (Below.refl _ _) rfl⟩
          | 14, hi =>
            cases (show some _ = some o from hi)
            have e31 : f.tmps.getD 31 undef = .pointer (some ⟨g1, t * 64, none⟩) := dep_of (V := (VBrn g1 g2 l c1 c2 t x1 x2 y1 y2 r)) hdep 13 31 (by kernel_rfl) (by kernel_rfl)
            have eg : f.tmps.getD 27 undef = .bool true := dep_of (V := (VBrn g1 g2 l c1 c2 t x1 x2 y1 y2 r)) hdep 9 27 (by kernel_rfl) (by kernel_rfl)
            clear hdep hsame hi
            exact .inl ⟨wanted_of 9 rfl eg (by kernel_rfl), shows_mid rfl 24 (.tmp 31) rfl g1 (t * 64) e31 (bcells x1) (RA1.out u hb6) underH rfl (hszB' X1.out) rfl⟩
          | 15, hi =>
            cases (show some _ = some o from hi)
            have e0 : f.tmps.getD 0 undef = .slice (some ⟨g1, 0, none⟩) l c1 := hsame.slot 0 (fun _ _ h => invB_not (n := 52) (by kernel_rfl) 0 (by kernel_rfl) h)
            have eg : f.tmps.getD 27 undef = .bool true := dep_of (V := (VBrn g1 g2 l c1 c2 t x1 x2 y1 y2 r)) hdep 9 27 (by kernel_rfl) (by kernel_rfl)
            clear hdep hsame hi
            exact .inl ⟨wanted_of 9 rfl eg (by kernel_rfl), shows_move rfl _ rfl e0⟩
          | 16, hi =>
            cases (show some _ = some o from hi)
            have e5 : f.tmps.getD 5 undef = .int .i64 (t : Int) := hsame.slot 5 (fun _ _ h => invB_not (n := 52) (by kernel_rfl) 5 (by kernel_rfl) h)
            have eg : f.tmps.getD 27 undef = .bool true := dep_of (V := (VBrn g1 g2 l c1 c2 t x1 x2 y1 y2 r)) hdep 9 27 (by kernel_rfl) (by kernel_rfl)
            clear hdep hsame hi
            exact .inl ⟨wanted_of 9 rfl eg (by kernel_rfl), shows_move rfl _ rfl e5⟩
          | 17, hi =>
            cases (show some _ = some o from hi)
            have e33 : f.tmps.getD 33 undef = .slice (some ⟨g1, 0, none⟩) l c1 := dep_of (V := (VBrn g1 g2 l c1 c2 t x1 x2 y1 y2 r)) hdep 15 33 (by kernel_rfl) (by kernel_rfl)
            have e34 : f.tmps.getD 34 undef = .int .i64 (t : Int) := dep_of (V := (VBrn g1 g2 l c1 c2 t x1 x2 y1 y2 r)) hdep 16 34 (by kernel_rfl) (by kernel_rfl)
            have eg : f.tmps.getD 27 undef = .bool true := dep_of (V := (VBrn g1 g2 l c1 c2 t x1 x2 y1 y2 r)) hdep 9 27 (by kernel_rfl) (by kernel_rfl)
            clear hdep hsame hi
            have hlt := HLT.out
            exact .inl ⟨wanted_of 9 rfl eg (by kernel_rfl), shows_run rfl (.pointer (some ⟨g1, t * 64, none⟩)) (by simp only [execOp, Act.eval]; go_simp) (Below.refl _ _) rfl⟩
          | 18, hi =>
            cases (show some _ = some o from hi)
            have e35 : f.tmps.getD 35 undef = .pointer (some ⟨g1, t * 64, none⟩) := dep_of (V := (VBrn g1 g2 l c1 c2 t x1 x2 y1 y2 r)) hdep 17 35 (by kernel_rfl) (by kernel_rfl)
            have eg : f.tmps.getD 27 undef = .bool true := dep_of (V := (VBrn g1 g2 l c1 c2 t x1 x2 y1 y2 r)) hdep 9 27 (by kernel_rfl) (by kernel_rfl)
            clear hdep hsame hi
            exact .inl ⟨wanted_of 9 rfl eg (by kernel_rfl), shows_run rfl (.pointer (some ⟨g1, t * 64 + 32, none⟩)) (by simp only [execOp, Act.eval]; go_simp) (Below.refl _ _) rfl⟩
          | 19, hi =>
            cases (show some _ = some o from hi)
            have e36 : f.tmps.getD 36 undef = .pointer (some ⟨g1, t * 64 + 32, none⟩) := dep_of (V := (VBrn g1 g2 l c1 c2 t x1 x2 y1 y2 r)) hdep 18 36 (by kernel_rfl) (by kernel_rfl)
            have eg : f.tmps.getD 27 undef = .bool true := dep_of (V := (VBrn g1 g2 l c1 c2 t x1 x2 y1 y2 r)) hdep 9 27 (by kernel_rfl) (by kernel_rfl)
            clear hdep hsame hi
            exact .inl ⟨wanted_of 9 rfl eg (by kernel_rfl), shows_mid rfl 24 (.tmp 36) rfl g1 (t * 64 + 32) e36 (bcells x2) (RA2.out u hb6) underH rfl (hszB' X2.out) rfl⟩
          | 20, hi =>
            cases (show some _ = some o from hi)
            have e32 : f.tmps.getD 32 undef = .agg (ocells (x1)) := dep_of (V := (VBrn g1 g2 l c1 c2 t x1 x2 y1 y2 r)) hdep 14 32 (by kernel_rfl) (by kernel_rfl)
            have e37 : f.tmps.getD 37 undef = .agg (ocells (x2)) := dep_of (V := (VBrn g1 g2 l c1 c2 t x1 x2 y1 y2 r)) hdep 19 37 (by kernel_rfl) (by kernel_rfl)
            have eg : f.tmps.getD 27 undef = .bool true := dep_of (V := (VBrn g1 g2 l c1 c2 t x1 x2 y1 y2 r)) hdep 9 27 (by kernel_rfl) (by kernel_rfl)
            clear hdep hsame hi
            have c := node_any u x1 x2 X1.out X2.out (HT.out.below (BW.out.trans (hb6.mono BW.out.size)))
            rw [hv_agg, hv_agg, hv_agg] at c
            exact .inl ⟨wanted_of 9 rfl eg (by kernel_rfl), shows_call rfl 21 #[.agg (ocells (x1)), .agg (ocells (x2))] (by simp only [execOp, Act.eval]; go_simp) (c) (fun _ => rfl)⟩
          | 21, hi =>
            cases (show some _ = some o from hi)
            have e1 : f.tmps.getD 1 undef = .slice (some ⟨g2, 0, none⟩) l c2 := hsame.slot 1 (fun _ _ h => invB_not (n := 52) (by kernel_rfl) 1 (by kernel_rfl) h)
            have eg : f.tmps.getD 27 undef = .bool true := dep_of (V := (VBrn g1 g2 l c1 c2 t x1 x2 y1 y2 r)) hdep 9 27 (by kernel_rfl) (by kernel_rfl)
            clear hdep hsame hi
            exact .inl ⟨wanted_of 9 rfl eg (by kernel_rfl), shows_move rfl _ rfl e1⟩
          | 22, hi =>
            cases (show some _ = some o from hi)
            have e5 : f.tmps.getD 5 undef = .int .i64 (t : Int) := hsame.slot 5 (fun _ _ h => invB_not (n := 52) (by kernel_rfl) 5 (by kernel_rfl) h)
            have eg : f.tmps.getD 27 undef = .bool true := dep_of (V := (VBrn g1 g2 l c1 c2 t x1 x2 y1 y2 r)) hdep 9 27 (by kernel_rfl) (by kernel_rfl)
            clear hdep hsame hi
            exact .inl ⟨wanted_of 9 rfl eg (by kernel_rfl), shows_move rfl _ rfl e5⟩
          | 23, hi =>
            cases (show some _ = some o from hi)
            have e39 : f.tmps.getD 39 undef = .slice (some ⟨g2, 0, none⟩) l c2 := dep_of (V := (VBrn g1 g2 l c1 c2 t x1 x2 y1 y2 r)) hdep 21 39 (by kernel_rfl) (by kernel_rfl)
            have e40 : f.tmps.getD 40 undef = .int .i64 (t : Int) := dep_of (V := (VBrn g1 g2 l c1 c2 t x1 x2 y1 y2 r)) hdep 22 40 (by kernel_rfl) (by kernel_rfl)
            have eg : f.tmps.getD 27 undef = .bool true := dep_of (V := (VBrn g1 g2 l c1 c2 t x1 x2 y1 y2 r)) hdep 9 27 (by kernel_rfl) (by kernel_rfl)
            clear hdep hsame hi
            have hlt := HLT.out
            exact .inl ⟨wanted_of 9 rfl eg (by kernel_rfl), shows_run rfl (.pointer (some ⟨g2, t * 64, none⟩)) (by simp only [execOp, Act.eval]; go_simp) (Below.refl _ _) rfl⟩
          | 24, hi =>
            cases (show some _ = some o from hi)
            have e41 : f.tmps.getD 41 undef = .pointer (some ⟨g2, t * 64, none⟩) := dep_of (V := (VBrn g1 g2 l c1 c2 t x1 x2 y1 y2 r)) hdep 23 41 (by kernel_rfl) (by kernel_rfl)
            have eg : f.tmps.getD 27 undef = .bool true := dep_of (V := (VBrn g1 g2 l c1 c2 t x1 x2 y1 y2 r)) hdep 9 27 (by kernel_rfl) (by kernel_rfl)
            clear hdep hsame hi
            exact .inl ⟨wanted_of 9 rfl eg (by kernel_rfl), shows_run rfl (.pointer (some ⟨g2, t * 64, none⟩)) (by simp only [execOp, Act.eval]; go_simp) (Below.refl _ _) rfl⟩
          | 25, hi =>
            cases (show some _ = some o from hi)
            have e42 : f.tmps.getD 42 undef = .pointer (some ⟨g2, t * 64, none⟩) := dep_of (V := (VBrn g1 g2 l c1 c2 t x1 x2 y1 y2 r)) hdep 24 42 (by kernel_rfl) (by kernel_rfl)
            have eg : f.tmps.getD 27 undef = .bool true := dep_of (V := (VBrn g1 g2 l c1 c2 t x1 x2 y1 y2 r)) hdep 9 27 (by kernel_rfl) (by kernel_rfl)
            clear hdep hsame hi
            exact .inl ⟨wanted_of 9 rfl eg (by kernel_rfl), shows_mid rfl 24 (.tmp 42) rfl g2 (t * 64) e42 (bcells y1) (RB1.out u hb6) underH rfl (hszB' Y1.out) rfl⟩
          | 26, hi =>
            cases (show some _ = some o from hi)
            have e1 : f.tmps.getD 1 undef = .slice (some ⟨g2, 0, none⟩) l c2 := hsame.slot 1 (fun _ _ h => invB_not (n := 52) (by kernel_rfl) 1 (by kernel_rfl) h)
            have eg : f.tmps.getD 27 undef = .bool true := dep_of (V := (VBrn g1 g2 l c1 c2 t x1 x2 y1 y2 r)) hdep 9 27 (by kernel_rfl) (by kernel_rfl)
            clear hdep hsame hi
            exact .inl ⟨wanted_of 9 rfl eg (by kernel_rfl), shows_move rfl _ rfl e1⟩
          | 27, hi =>
            cases (show some _ = some o from hi)
            have e5 : f.tmps.getD 5 undef = .int .i64 (t : Int) := hsame.slot 5 (fun _ _ h => invB_not (n := 52) (by kernel_rfl) 5 (by kernel_rfl) h)
            have eg : f.tmps.getD 27 undef = .bool true := dep_of (V := (VBrn g1 g2 l c1 c2 t x1 x2 y1 y2 r)) hdep 9 27 (by kernel_rfl) (by kernel_rfl)
            clear hdep hsame hi
            exact .inl ⟨wanted_of 9 rfl eg (by kernel_rfl), shows_move rfl _ rfl e5⟩
          | 28, hi =>
            cases (show some _ = some o from hi)
            have e44 : f.tmps.getD 44 undef = .slice (some ⟨g2, 0, none⟩) l c2 := dep_of (V := (VBrn g1 g2 l c1 c2 t x1 x2 y1 y2 r)) hdep 26 44 (by kernel_rfl) (by kernel_rfl)
            have e45 : f.tmps.getD 45 undef = .int .i64 (t : Int) := dep_of (V := (VBrn g1 g2 l c1 c2 t x1 x2 y1 y2 r)) hdep 27 45 (by kernel_rfl) (by kernel_rfl)
            have eg : f.tmps.getD 27 undef = .bool true := dep_of (V := (VBrn g1 g2 l c1 c2 t x1 x2 y1 y2 r)) hdep 9 27 (by kernel_rfl) (by kernel_rfl)
            clear hdep hsame hi
            have hlt := HLT.out
            exact .inl ⟨wanted_of 9 rfl eg (by kernel_rfl), shows_run rfl (.pointer (some ⟨g2, t * 64, none⟩)) (by simp only [execOp, Act.eval]; go_simp) (Below.refl _ _) rfl⟩
          | 29, hi =>
            cases (show some _ = some o from hi)
            have e46 : f.tmps.getD 46 undef = .pointer (some ⟨g2, t * 64, none⟩) := dep_of (V := (VBrn g1 g2 l c1 c2 t x1 x2 y1 y2 r)) hdep 28 46 (by kernel_rfl) (by kernel_rfl)
            have eg : f.tmps.getD 27 undef = .bool true := dep_of (V := (VBrn g1 g2 l c1 c2 t x1 x2 y1 y2 r)) hdep 9 27 (by kernel_rfl) (by kernel_rfl)
            clear hdep hsame hi
            exact .inl ⟨wanted_of 9 rfl eg (by kernel_rfl), shows_run rfl (.pointer (some ⟨g2, t * 64 + 32, none⟩)) (by simp only [execOp, Act.eval]; go_simp) (Below.refl _ _) rfl⟩
          | 30, hi =>
            cases (show some _ = some o from hi)
            have e47 : f.tmps.getD 47 undef = .pointer (some ⟨g2, t * 64 + 32, none⟩) := dep_of (V := (VBrn g1 g2 l c1 c2 t x1 x2 y1 y2 r)) hdep 29 47 (by kernel_rfl) (by kernel_rfl)
            have eg : f.tmps.getD 27 undef = .bool true := dep_of (V := (VBrn g1 g2 l c1 c2 t x1 x2 y1 y2 r)) hdep 9 27 (by kernel_rfl) (by kernel_rfl)
            clear hdep hsame hi
            exact .inl ⟨wanted_of 9 rfl eg (by kernel_rfl), shows_mid rfl 24 (.tmp 47) rfl g2 (t * 64 + 32) e47 (bcells y2) (RB2.out u hb6) underH rfl (hszB' Y2.out) rfl⟩
          | 31, hi =>
            cases (show some _ = some o from hi)
            have e43 : f.tmps.getD 43 undef = .agg (ocells (y1)) := dep_of (V := (VBrn g1 g2 l c1 c2 t x1 x2 y1 y2 r)) hdep 25 43 (by kernel_rfl) (by kernel_rfl)
            have e48 : f.tmps.getD 48 undef = .agg (ocells (y2)) := dep_of (V := (VBrn g1 g2 l c1 c2 t x1 x2 y1 y2 r)) hdep 30 48 (by kernel_rfl) (by kernel_rfl)
            have eg : f.tmps.getD 27 undef = .bool true := dep_of (V := (VBrn g1 g2 l c1 c2 t x1 x2 y1 y2 r)) hdep 9 27 (by kernel_rfl) (by kernel_rfl)
            clear hdep hsame hi
            have c := node_any u y1 y2 Y1.out Y2.out (HT.out.below (BW.out.trans (hb6.mono BW.out.size)))
            rw [hv_agg, hv_agg, hv_agg] at c
            exact .inl ⟨wanted_of 9 rfl eg (by kernel_rfl), shows_call rfl 21 #[.agg (ocells (y1)), .agg (ocells (y2))] (by simp only [execOp, Act.eval]; go_simp) (c) (fun _ => rfl)⟩
          | 32, hi =>
            cases (show some _ = some o from hi)
            have e38 : f.tmps.getD 38 undef = .agg (ocells (nd x1 x2)) := dep_of (V := (VBrn g1 g2 l c1 c2 t x1 x2 y1 y2 r)) hdep 20 38 (by kernel_rfl) (by kernel_rfl)
            have e49 : f.tmps.getD 49 undef = .agg (ocells (nd y1 y2)) := dep_of (V := (VBrn g1 g2 l c1 c2 t x1 x2 y1 y2 r)) hdep 31 49 (by kernel_rfl) (by kernel_rfl)
            have eg : f.tmps.getD 27 undef = .bool true := dep_of (V := (VBrn g1 g2 l c1 c2 t x1 x2 y1 y2 r)) hdep 9 27 (by kernel_rfl) (by kernel_rfl)
            clear hdep hsame hi
            have q := HR.out
            exact .inl ⟨wanted_of 9 rfl eg (by kernel_rfl), shows_run rfl (.bool r) (by simp only [execOp, Act.eval]; go_simp) (Below.refl _ _) rfl⟩
          | 33, hi =>
            cases (show some _ = some o from hi)
            have e27 : f.tmps.getD 27 undef = .bool true := dep_of (V := (VBrn g1 g2 l c1 c2 t x1 x2 y1 y2 r)) hdep 9 27 (by kernel_rfl) (by kernel_rfl)
            have e50 : f.tmps.getD 50 undef = .bool r := dep_of (V := (VBrn g1 g2 l c1 c2 t x1 x2 y1 y2 r)) hdep 32 50 (by kernel_rfl) (by kernel_rfl)
            clear hdep hsame hi
            exact .inl ⟨wanted_none rfl, shows_run rfl (.bool r) (by simp only [execOp, Act.eval]; go_simp) (Below.refl _ _) rfl⟩
          | n + 34, hi => exact absurd hi (by simp)
        · intro f u hsame hbel hall
          have q18 : f.tmps.getD 18 undef = .slice (some ⟨g1, 0, none⟩) l c1 := hall 0 _ 18 rfl rfl
          have q19 : f.tmps.getD 19 undef = .int .i64 (t : Int) := hall 1 _ 19 rfl rfl
          have q20 : f.tmps.getD 20 undef = .pointer (some ⟨g1, t * 64, none⟩) := hall 2 _ 20 rfl rfl
          have q21 : f.tmps.getD 21 undef = .agg (bcells x1 ++ bcells x2).toArray := hall 3 _ 21 rfl rfl
          have q22 : f.tmps.getD 22 undef = .slice (some ⟨g2, 0, none⟩) l c2 := hall 4 _ 22 rfl rfl
          have q23 : f.tmps.getD 23 undef = .int .i64 (t : Int) := hall 5 _ 23 rfl rfl
          have q24 : f.tmps.getD 24 undef = .pointer (some ⟨g2, t * 64, none⟩) := hall 6 _ 24 rfl rfl
          have q25 : f.tmps.getD 25 undef = .agg (bcells y1 ++ bcells y2).toArray := hall 7 _ 25 rfl rfl
          have q26 : f.tmps.getD 26 undef = .bool true := hall 8 _ 26 rfl rfl
          have q27 : f.tmps.getD 27 undef = .bool true := hall 9 _ 27 rfl rfl
          have q28 : f.tmps.getD 28 undef = .slice (some ⟨g1, 0, none⟩) l c1 := hall 10 _ 28 rfl rfl
          have q29 : f.tmps.getD 29 undef = .int .i64 (t : Int) := hall 11 _ 29 rfl rfl
          have q30 : f.tmps.getD 30 undef = .pointer (some ⟨g1, t * 64, none⟩) := hall 12 _ 30 rfl rfl
          have q31 : f.tmps.getD 31 undef = .pointer (some ⟨g1, t * 64, none⟩) := hall 13 _ 31 rfl rfl
          have q32 : f.tmps.getD 32 undef = .agg (ocells (x1)) := hall 14 _ 32 rfl rfl
          have q33 : f.tmps.getD 33 undef = .slice (some ⟨g1, 0, none⟩) l c1 := hall 15 _ 33 rfl rfl
          have q34 : f.tmps.getD 34 undef = .int .i64 (t : Int) := hall 16 _ 34 rfl rfl
          have q35 : f.tmps.getD 35 undef = .pointer (some ⟨g1, t * 64, none⟩) := hall 17 _ 35 rfl rfl
          have q36 : f.tmps.getD 36 undef = .pointer (some ⟨g1, t * 64 + 32, none⟩) := hall 18 _ 36 rfl rfl
          have q37 : f.tmps.getD 37 undef = .agg (ocells (x2)) := hall 19 _ 37 rfl rfl
          have q38 : f.tmps.getD 38 undef = .agg (ocells (nd x1 x2)) := hall 20 _ 38 rfl rfl
          have q39 : f.tmps.getD 39 undef = .slice (some ⟨g2, 0, none⟩) l c2 := hall 21 _ 39 rfl rfl
          have q40 : f.tmps.getD 40 undef = .int .i64 (t : Int) := hall 22 _ 40 rfl rfl
          have q41 : f.tmps.getD 41 undef = .pointer (some ⟨g2, t * 64, none⟩) := hall 23 _ 41 rfl rfl
          have q42 : f.tmps.getD 42 undef = .pointer (some ⟨g2, t * 64, none⟩) := hall 24 _ 42 rfl rfl
          have q43 : f.tmps.getD 43 undef = .agg (ocells (y1)) := hall 25 _ 43 rfl rfl
          have q44 : f.tmps.getD 44 undef = .slice (some ⟨g2, 0, none⟩) l c2 := hall 26 _ 44 rfl rfl
          have q45 : f.tmps.getD 45 undef = .int .i64 (t : Int) := hall 27 _ 45 rfl rfl
          have q46 : f.tmps.getD 46 undef = .pointer (some ⟨g2, t * 64, none⟩) := hall 28 _ 46 rfl rfl
          have q47 : f.tmps.getD 47 undef = .pointer (some ⟨g2, t * 64 + 32, none⟩) := hall 29 _ 47 rfl rfl
          have q48 : f.tmps.getD 48 undef = .agg (ocells (y2)) := hall 30 _ 48 rfl rfl
          have q49 : f.tmps.getD 49 undef = .agg (ocells (nd y1 y2)) := hall 31 _ 49 rfl rfl
          have q50 : f.tmps.getD 50 undef = .bool r := hall 32 _ 50 rfl rfl
          have q51 : f.tmps.getD 51 undef = .bool r := hall 33 _ 51 rfl rfl
          obtain rfl := frame_eq hsame [(18, .slice (some ⟨g1, 0, none⟩) l c1), (19, .int .i64 (t : Int)), (20, .pointer (some ⟨g1, t * 64, none⟩)), (21, .agg (bcells x1 ++ bcells x2).toArray), (22, .slice (some ⟨g2, 0, none⟩) l c2), (23, .int .i64 (t : Int)), (24, .pointer (some ⟨g2, t * 64, none⟩)), (25, .agg (bcells y1 ++ bcells y2).toArray), (26, .bool true), (27, .bool true), (28, .slice (some ⟨g1, 0, none⟩) l c1), (29, .int .i64 (t : Int)), (30, .pointer (some ⟨g1, t * 64, none⟩)), (31, .pointer (some ⟨g1, t * 64, none⟩)), (32, .agg (ocells (x1))), (33, .slice (some ⟨g1, 0, none⟩) l c1), (34, .int .i64 (t : Int)), (35, .pointer (some ⟨g1, t * 64, none⟩)), (36, .pointer (some ⟨g1, t * 64 + 32, none⟩)), (37, .agg (ocells (x2))), (38, .agg (ocells (nd x1 x2))), (39, .slice (some ⟨g2, 0, none⟩) l c2), (40, .int .i64 (t : Int)), (41, .pointer (some ⟨g2, t * 64, none⟩)), (42, .pointer (some ⟨g2, t * 64, none⟩)), (43, .agg (ocells (y1))), (44, .slice (some ⟨g2, 0, none⟩) l c2), (45, .int .i64 (t : Int)), (46, .pointer (some ⟨g2, t * 64, none⟩)), (47, .pointer (some ⟨g2, t * 64 + 32, none⟩)), (48, .agg (ocells (y2))), (49, .agg (ocells (nd y1 y2))), (50, .bool r), (51, .bool r)] (by kernel_rfl) ⟨q18, q19, q20, q21, q22, q23, q24, q25, q26, q27, q28, q29, q30, q31, q32, q33, q34, q35, q36, q37, q38, q39, q40, q41, q42, q43, q44, q45, q46, q47, q48, q49, q50, q51, trivial⟩
          clear hall hsame q18 q19 q20 q21 q22 q23 q24 q25 q26 q27 q28 q29 q30 q31 q32 q33 q34 q35 q36 q37 q38 q39 q40 q41 q42 q43 q44 q45 q46 q47 q48 q49 q50 q51
          simp only [List.foldl, List.setIfInBounds_toArray, List.set_cons_succ, List.set_cons_zero]
          have BU := Bx.mk (BW.out.trans (hbel.mono BW.out.size))
          clear hbel
          cases r
          · go_wp2_with fail
            go_roundw
            case rel => exact ⟨t + 1, HLT.out, by go_num, by rw [HBR.out, HDR.out]; rfl, BU.out⟩
            case measure => have := HLT.out; simp [intOf]; omega
          · go_wp2_with fail
            exact bodyPost_ret (results_tmp rfl _ _ _) rfl ⟨by rw [HBR.out, HDR.out]; rfl, BU.out⟩
      · simp only [Bool.not_true] at HQ
        go_upto_region 4 with (fail)
        refine wp_region_invU (n := 52) (VBre g1 g2 l c1 c2 t x1 x2 y1 y2 r) (by kernel_rfl) (by kernel_rfl) rfl (VBre_mono g1 g2 l c1 c2 t x1 x2 y1 y2 r) ?_ ?_
        · intro oi o hi f u hsame hbel hdep
          have hb6 := hbel
          match oi, hi with
          | 0, hi =>
            cases (show some _ = some o from hi)
            have e0 : f.tmps.getD 0 undef = .slice (some ⟨g1, 0, none⟩) l c1 := hsame.slot 0 (fun _ _ h => invB_not (n := 52) (by kernel_rfl) 0 (by kernel_rfl) h)
            clear hdep hsame hi
            exact .inl ⟨wanted_none rfl, shows_move rfl _ rfl e0⟩
          | 1, hi =>
            cases (show some _ = some o from hi)
            have e5 : f.tmps.getD 5 undef = .int .i64 (t : Int) := hsame.slot 5 (fun _ _ h => invB_not (n := 52) (by kernel_rfl) 5 (by kernel_rfl) h)
            clear hdep hsame hi
            exact .inl ⟨wanted_none rfl, shows_move rfl _ rfl e5⟩
          | 2, hi =>
            cases (show some _ = some o from hi)
            have e18 : f.tmps.getD 18 undef = .slice (some ⟨g1, 0, none⟩) l c1 := dep_of (V := (VBre g1 g2 l c1 c2 t x1 x2 y1 y2 r)) hdep 0 18 (by kernel_rfl) (by kernel_rfl)
            have e19 : f.tmps.getD 19 undef = .int .i64 (t : Int) := dep_of (V := (VBre g1 g2 l c1 c2 t x1 x2 y1 y2 r)) hdep 1 19 (by kernel_rfl) (by kernel_rfl)
            clear hdep hsame hi
            have hlt := HLT.out
            exact .inl ⟨wanted_none rfl, shows_run rfl (.pointer (some ⟨g1, t * 64, none⟩)) (by simp only [execOp, Act.eval]; go_simp) (Below.refl _ _) rfl⟩
          | 3, hi =>
            cases (show some _ = some o from hi)
            have e20 : f.tmps.getD 20 undef = .pointer (some ⟨g1, t * 64, none⟩) := dep_of (V := (VBre g1 g2 l c1 c2 t x1 x2 y1 y2 r)) hdep 2 20 (by kernel_rfl) (by kernel_rfl)
            clear hdep hsame hi
            exact .inl ⟨wanted_none rfl, shows_mid rfl 55 (.tmp 20) rfl g1 (t * 64) e20 (bcells x1 ++ bcells x2) (RP1.out u hb6) underP rfl (pszL X1.out X2.out) rfl⟩
          | 4, hi =>
            cases (show some _ = some o from hi)
            have e1 : f.tmps.getD 1 undef = .slice (some ⟨g2, 0, none⟩) l c2 := hsame.slot 1 (fun _ _ h => invB_not (n := 52) (by kernel_rfl) 1 (by kernel_rfl) h)
            clear hdep hsame hi
            exact .inl ⟨wanted_none rfl, shows_move rfl _ rfl e1⟩
          | 5, hi =>
            cases (show some _ = some o from hi)
            have e5 : f.tmps.getD 5 undef = .int .i64 (t : Int) := hsame.slot 5 (fun _ _ h => invB_not (n := 52) (by kernel_rfl) 5 (by kernel_rfl) h)
            clear hdep hsame hi
            exact .inl ⟨wanted_none rfl, shows_move rfl _ rfl e5⟩
          | 6, hi =>
            cases (show some _ = some o from hi)
            have e22 : f.tmps.getD 22 undef = .slice (some ⟨g2, 0, none⟩) l c2 := dep_of (V := (VBre g1 g2 l c1 c2 t x1 x2 y1 y2 r)) hdep 4 22 (by kernel_rfl) (by kernel_rfl)
            have e23 : f.tmps.getD 23 undef = .int .i64 (t : Int) := dep_of (V := (VBre g1 g2 l c1 c2 t x1 x2 y1 y2 r)) hdep 5 23 (by kernel_rfl) (by kernel_rfl)
            clear hdep hsame hi
            have hlt := HLT.out
            exact .inl ⟨wanted_none rfl, shows_run rfl (.pointer (some ⟨g2, t * 64, none⟩)) (by simp only [execOp, Act.eval]; go_simp) (Below.refl _ _) rfl⟩
          | 7, hi =>
            cases (show some _ = some o from hi)
            have e24 : f.tmps.getD 24 undef = .pointer (some ⟨g2, t * 64, none⟩) := dep_of (V := (VBre g1 g2 l c1 c2 t x1 x2 y1 y2 r)) hdep 6 24 (by kernel_rfl) (by kernel_rfl)
            clear hdep hsame hi
            exact .inl ⟨wanted_none rfl, shows_mid rfl 55 (.tmp 24) rfl g2 (t * 64) e24 (bcells y1 ++ bcells y2) (RP2.out u hb6) underP rfl (pszL Y1.out Y2.out) rfl⟩
          | 8, hi =>
            cases (show some _ = some o from hi)
            have e21 : f.tmps.getD 21 undef = .agg (bcells x1 ++ bcells x2).toArray := dep_of (V := (VBre g1 g2 l c1 c2 t x1 x2 y1 y2 r)) hdep 3 21 (by kernel_rfl) (by kernel_rfl)
            have e25 : f.tmps.getD 25 undef = .agg (bcells y1 ++ bcells y2).toArray := dep_of (V := (VBre g1 g2 l c1 c2 t x1 x2 y1 y2 r)) hdep 7 25 (by kernel_rfl) (by kernel_rfl)
            clear hdep hsame hi
            have q := HQ.out
            exact .inl ⟨wanted_none rfl, shows_run rfl (.bool false) (by simp only [execOp, Act.eval]; go_simp) (Below.refl _ _) rfl⟩
          | 9, hi =>
            cases (show some _ = some o from hi)
            have e26 : f.tmps.getD 26 undef = .bool false := dep_of (V := (VBre g1 g2 l c1 c2 t x1 x2 y1 y2 r)) hdep 8 26 (by kernel_rfl) (by kernel_rfl)
            clear hdep hsame hi
            exact .inl ⟨wanted_none rfl, shows_move rfl _ rfl e26⟩
          | 10, hi =>
            cases (show some _ = some o from hi)
            have e0 : f.tmps.getD 0 undef = .slice (some ⟨g1, 0, none⟩) l c1 := hsame.slot 0 (fun _ _ h => invB_not (n := 52) (by kernel_rfl) 0 (by kernel_rfl) h)
            have eg : f.tmps.getD 27 undef = .bool false := dep_of (V := (VBre g1 g2 l c1 c2 t x1 x2 y1 y2 r)) hdep 9 27 (by kernel_rfl) (by kernel_rfl)
            clear hdep hsame hi
            exact .inr ⟨unwanted_of 9 rfl eg (by kernel_rfl) (by decide), (fun d h => by cases h; rfl)⟩
          | 11, hi =>
            cases (show some _ = some o from hi)
            have e5 : f.tmps.getD 5 undef = .int .i64 (t : Int) := hsame.slot 5 (fun _ _ h => invB_not (n := 52) (by kernel_rfl) 5 (by kernel_rfl) h)
            have eg : f.tmps.getD 27 undef = .bool false := dep_of (V := (VBre g1 g2 l c1 c2 t x1 x2 y1 y2 r)) hdep 9 27 (by kernel_rfl) (by kernel_rfl)
            clear hdep hsame hi
            exact .inr ⟨unwanted_of 9 rfl eg (by kernel_rfl) (by decide), (fun d h => by cases h; rfl)⟩
          | 12, hi =>
            cases (show some _ = some o from hi)
            have e28 : f.tmps.getD 28 undef = undef := dep_of (V := (VBre g1 g2 l c1 c2 t x1 x2 y1 y2 r)) hdep 10 28 (by kernel_rfl) (by kernel_rfl)
            have e29 : f.tmps.getD 29 undef = undef := dep_of (V := (VBre g1 g2 l c1 c2 t x1 x2 y1 y2 r)) hdep 11 29 (by kernel_rfl) (by kernel_rfl)
            have eg : f.tmps.getD 27 undef = .bool false := dep_of (V := (VBre g1 g2 l c1 c2 t x1 x2 y1 y2 r)) hdep 9 27 (by kernel_rfl) (by kernel_rfl)
            clear hdep hsame hi
            exact .inr ⟨unwanted_of 9 rfl eg (by kernel_rfl) (by decide), (fun d h => by cases h; rfl)⟩
          | 13, hi =>
            cases (show some _ = some o from hi)
            have e30 : f.tmps.getD 30 undef = undef := dep_of (V := (VBre g1 g2 l c1 c2 t x1 x2 y1 y2 r)) hdep 12 30 (by kernel_rfl) (by kernel_rfl)
            have eg : f.tmps.getD 27 undef = .bool false := dep_of (V := (VBre g1 g2 l c1 c2 t x1 x2 y1 y2 r)) hdep 9 27 (by kernel_rfl) (by kernel_rfl)
            clear hdep hsame hi
            exact .inr ⟨unwanted_of 9 rfl eg (by kernel_rfl) (by decide), (fun d h => by cases h; rfl)⟩
          | 14, hi =>
            cases (show some _ = some o from hi)
            have e31 : f.tmps.getD 31 undef = undef := dep_of (V := (VBre g1 g2 l c1 c2 t x1 x2 y1 y2 r)) hdep 13 31 (by kernel_rfl) (by kernel_rfl)
            have eg : f.tmps.getD 27 undef = .bool false := dep_of (V := (VBre g1 g2 l c1 c2 t x1 x2 y1 y2 r)) hdep 9 27 (by kernel_rfl) (by kernel_rfl)
            clear hdep hsame hi
            exact .inr ⟨unwanted_of 9 rfl eg (by kernel_rfl) (by decide), (fun d h => by cases h; rfl)⟩
          | 15, hi =>
            cases (show some _ = some o from hi)
            have e0 : f.tmps.getD 0 undef = .slice (some ⟨g1, 0, none⟩) l c1 := hsame.slot 0 (fun _ _ h => invB_not (n := 52) (by kernel_rfl) 0 (by kernel_rfl) h)
            have eg : f.tmps.getD 27 undef = .bool false := dep_of (V := (VBre g1 g2 l c1 c2 t x1 x2 y1 y2 r)) hdep 9 27 (by kernel_rfl) (by kernel_rfl)
            clear hdep hsame hi
            exact .inr ⟨unwanted_of 9 rfl eg (by kernel_rfl) (by decide), (fun d h => by cases h; rfl)⟩
          | 16, hi =>
            cases (show some _ = some o from hi)
            have e5 : f.tmps.getD 5 undef = .int .i64 (t : Int) := hsame.slot 5 (fun _ _ h => invB_not (n := 52) (by kernel_rfl) 5 (by kernel_rfl) h)
            have eg : f.tmps.getD 27 undef = .bool false := dep_of (V := (VBre g1 g2 l c1 c2 t x1 x2 y1 y2 r)) hdep 9 27 (by kernel_rfl) (by kernel_rfl)
            clear hdep hsame hi
            exact .inr ⟨unwanted_of 9 rfl eg (by kernel_rfl) (by decide), (fun d h => by cases h; rfl)⟩
          | 17, hi =>
            cases (show some _ = some o from hi)
            have e33 : f.tmps.getD 33 undef = undef := dep_of (V := (VBre g1 g2 l c1 c2 t x1 x2 y1 y2 r)) hdep 15 33 (by kernel_rfl) (by kernel_rfl)
            have e34 : f.tmps.getD 34 undef = undef := dep_of (V := (VBre g1 g2 l c1 c2 t x1 x2 y1 y2 r)) hdep 16 34 (by kernel_rfl) (by kernel_rfl)
            have eg : f.tmps.getD 27 undef = .bool false := dep_of (V := (VBre g1 g2 l c1 c2 t x1 x2 y1 y2 r)) hdep 9 27 (by kernel_rfl) (by kernel_rfl)
            clear hdep hsame hi
            exact .inr ⟨unwanted_of 9 rfl eg (by kernel_rfl) (by decide), (fun d h => by cases h; rfl)⟩
          | 18, hi =>
            cases (show some _ = some o from hi)
            have e35 : f.tmps.getD 35 undef = undef := dep_of (V := (VBre g1 g2 l c1 c2 t x1 x2 y1 y2 r)) hdep 17 35 (by kernel_rfl) (by kernel_rfl)
            have eg : f.tmps.getD 27 undef = .bool false := dep_of (V := (VBre g1 g2 l c1 c2 t x1 x2 y1 y2 r)) hdep 9 27 (by kernel_rfl) (by kernel_rfl)
            clear hdep hsame hi
            exact .inr ⟨unwanted_of 9 rfl eg (by kernel_rfl) (by decide), (fun d h => by cases h; rfl)⟩
          | 19, hi =>
            cases (show some _ = some o from hi)
            have e36 : f.tmps.getD 36 undef = undef := dep_of (V := (VBre g1 g2 l c1 c2 t x1 x2 y1 y2 r)) hdep 18 36 (by kernel_rfl) (by kernel_rfl)
            have eg : f.tmps.getD 27 undef = .bool false := dep_of (V := (VBre g1 g2 l c1 c2 t x1 x2 y1 y2 r)) hdep 9 27 (by kernel_rfl) (by kernel_rfl)
            clear hdep hsame hi
            exact .inr ⟨unwanted_of 9 rfl eg (by kernel_rfl) (by decide), (fun d h => by cases h; rfl)⟩
          | 20, hi =>
            cases (show some _ = some o from hi)
            have e32 : f.tmps.getD 32 undef = undef := dep_of (V := (VBre g1 g2 l c1 c2 t x1 x2 y1 y2 r)) hdep 14 32 (by kernel_rfl) (by kernel_rfl)
            have e37 : f.tmps.getD 37 undef = undef := dep_of (V := (VBre g1 g2 l c1 c2 t x1 x2 y1 y2 r)) hdep 19 37 (by kernel_rfl) (by kernel_rfl)
            have eg : f.tmps.getD 27 undef = .bool false := dep_of (V := (VBre g1 g2 l c1 c2 t x1 x2 y1 y2 r)) hdep 9 27 (by kernel_rfl) (by kernel_rfl)
            clear hdep hsame hi
            exact .inr ⟨unwanted_of 9 rfl eg (by kernel_rfl) (by decide), (fun d h => by cases h; rfl)⟩
          | 21, hi =>
            cases (show some _ = some o from hi)
            have e1 : f.tmps.getD 1 undef = .slice (some ⟨g2, 0, none⟩) l c2 := hsame.slot 1 (fun _ _ h => invB_not (n := 52) (by kernel_rfl) 1 (by kernel_rfl) h)
            have eg : f.tmps.getD 27 undef = .bool false := dep_of (V := (VBre g1 g2 l c1 c2 t x1 x2 y1 y2 r)) hdep 9 27 (by kernel_rfl) (by kernel_rfl)
            clear hdep hsame hi
            exact .inr ⟨unwanted_of 9 rfl eg (by kernel_rfl) (by decide), (fun d h => by cases h; rfl)⟩
          | 22, hi =>
            cases (show some _ = some o from hi)
            have e5 : f.tmps.getD 5 undef = .int .i64 (t : Int) := hsame.slot 5 (fun _ _ h => invB_not (n := 52) (by kernel_rfl) 5 (by kernel_rfl) h)
            have eg : f.tmps.getD 27 undef = .bool false := dep_of (V := (VBre g1 g2 l c1 c2 t x1 x2 y1 y2 r)) hdep 9 27 (by kernel_rfl) (by kernel_rfl)
            clear hdep hsame hi
            exact .inr ⟨unwanted_of 9 rfl eg (by kernel_rfl) (by decide), (fun d h => by cases h; rfl)⟩
          | 23, hi =>
            cases (show some _ = some o from hi)
            have e39 : f.tmps.getD 39 undef = undef := dep_of (V := (VBre g1 g2 l c1 c2 t x1 x2 y1 y2 r)) hdep 21 39 (by kernel_rfl) (by kernel_rfl)
            have e40 : f.tmps.getD 40 undef = undef := dep_of (V := (VBre g1 g2 l c1 c2 t x1 x2 y1 y2 r)) hdep 22 40 (by kernel_rfl) (by kernel_rfl)
            have eg : f.tmps.getD 27 undef = .bool false := dep_of (V := (VBre g1 g2 l c1 c2 t x1 x2 y1 y2 r)) hdep 9 27 (by kernel_rfl) (by kernel_rfl)
            clear hdep hsame hi
            exact .inr ⟨unwanted_of 9 rfl eg (by kernel_rfl) (by decide), (fun d h => by cases h; rfl)⟩
          | 24, hi =>
            cases (show some _ = some o from hi)
            have e41 : f.tmps.getD 41 undef = undef := dep_of (V := (VBre g1 g2 l c1 c2 t x1 x2 y1 y2 r)) hdep 23 41 (by kernel_rfl) (by kernel_rfl)
            have eg : f.tmps.getD 27 undef = .bool false := dep_of (V := (VBre g1 g2 l c1 c2 t x1 x2 y1 y2 r)) hdep 9 27 (by kernel_rfl) (by kernel_rfl)
            clear hdep hsame hi
            exact .inr ⟨unwanted_of 9 rfl eg (by kernel_rfl) (by decide), (fun d h => by cases h; rfl)⟩
          | 25, hi =>
            cases (show some _ = some o from hi)
            have e42 : f.tmps.getD 42 undef = undef := dep_of (V := (VBre g1 g2 l c1 c2 t x1 x2 y1 y2 r)) hdep 24 42 (by kernel_rfl) (by kernel_rfl)
            have eg : f.tmps.getD 27 undef = .bool false := dep_of (V := (VBre g1 g2 l c1 c2 t x1 x2 y1 y2 r)) hdep 9 27 (by kernel_rfl) (by kernel_rfl)
            clear hdep hsame hi
            exact .inr ⟨unwanted_of 9 rfl eg (by kernel_rfl) (by decide), (fun d h => by cases h; rfl)⟩
          | 26, hi =>
            cases (show some _ = some o from hi)
            have e1 : f.tmps.getD 1 undef = .slice (some ⟨g2, 0, none⟩) l c2 := hsame.slot 1 (fun _ _ h => invB_not (n := 52) (by kernel_rfl) 1 (by kernel_rfl) h)
            have eg : f.tmps.getD 27 undef = .bool false := dep_of (V := (VBre g1 g2 l c1 c2 t x1 x2 y1 y2 r)) hdep 9 27 (by kernel_rfl) (by kernel_rfl)
            clear hdep hsame hi
            exact .inr ⟨unwanted_of 9 rfl eg (by kernel_rfl) (by decide), (fun d h => by cases h; rfl)⟩
          | 27, hi =>
            cases (show some _ = some o from hi)
            have e5 : f.tmps.getD 5 undef = .int .i64 (t : Int) := hsame.slot 5 (fun _ _ h => invB_not (n := 52) (by kernel_rfl) 5 (by kernel_rfl) h)
            have eg : f.tmps.getD 27 undef = .bool false := dep_of (V := (VBre g1 g2 l c1 c2 t x1 x2 y1 y2 r)) hdep 9 27 (by kernel_rfl) (by kernel_rfl)
            clear hdep hsame hi
            exact .inr ⟨unwanted_of 9 rfl eg (by kernel_rfl) (by decide), (fun d h => by cases h; rfl)⟩
          | 28, hi =>
            cases (show some _ = some o from hi)
            have e44 : f.tmps.getD 44 undef = undef := dep_of (V := (VBre g1 g2 l c1 c2 t x1 x2 y1 y2 r)) hdep 26 44 (by kernel_rfl) (by kernel_rfl)
            have e45 : f.tmps.getD 45 undef = undef := dep_of (V := (VBre g1 g2 l c1 c2 t x1 x2 y1 y2 r)) hdep 27 45 (by kernel_rfl) (by kernel_rfl)
            have eg : f.tmps.getD 27 undef = .bool false := dep_of (V := (VBre g1 g2 l c1 c2 t x1 x2 y1 y2 r)) hdep 9 27 (by kernel_rfl) (by kernel_rfl)
            clear hdep hsame hi
            exact .inr ⟨unwanted_of 9 rfl eg (by kernel_rfl) (by decide), (fun d h => by cases h; rfl)⟩
          | 29, hi =>
            cases (show some _ = some o from hi)
            have e46 : f.tmps.getD 46 undef = undef := dep_of (V := (VBre g1 g2 l c1 c2 t x1 x2 y1 y2 r)) hdep 28 46 (by kernel_rfl) (by kernel_rfl)
            have eg : f.tmps.getD 27 undef = .bool false := dep_of (V := (VBre g1 g2 l c1 c2 t x1 x2 y1 y2 r)) hdep 9 27 (by kernel_rfl) (by kernel_rfl)
            clear hdep hsame hi
            exact .inr ⟨unwanted_of 9 rfl eg (by kernel_rfl) (by decide), (fun d h => by cases h; rfl)⟩
          | 30, hi =>
            cases (show some _ = some o from hi)
            have e47 : f.tmps.getD 47 undef = undef := dep_of (V := (VBre g1 g2 l c1 c2 t x1 x2 y1 y2 r)) hdep 29 47 (by kernel_rfl) (by kernel_rfl)
            have eg : f.tmps.getD 27 undef = .bool false := dep_of (V := (VBre g1 g2 l c1 c2 t x1 x2 y1 y2 r)) hdep 9 27 (by kernel_rfl) (by kernel_rfl)
            clear hdep hsame hi
            exact .inr ⟨unwanted_of 9 rfl eg (by kernel_rfl) (by decide), (fun d h => by cases h; rfl)⟩
          | 31, hi =>
            cases (show some _ = some o from hi)
            have e43 : f.tmps.getD 43 undef = undef := dep_of (V := (VBre g1 g2 l c1 c2 t x1 x2 y1 y2 r)) hdep 25 43 (by kernel_rfl) (by kernel_rfl)
            have e48 : f.tmps.getD 48 undef = undef := dep_of (V := (VBre g1 g2 l c1 c2 t x1 x2 y1 y2 r)) hdep 30 48 (by kernel_rfl) (by kernel_rfl)
            have eg : f.tmps.getD 27 undef = .bool false := dep_of (V := (VBre g1 g2 l c1 c2 t x1 x2 y1 y2 r)) hdep 9 27 (by kernel_rfl) (by kernel_rfl)
            clear hdep hsame hi
            exact .inr ⟨unwanted_of 9 rfl eg (by kernel_rfl) (by decide), (fun d h => by cases h; rfl)⟩
          | 32, hi =>
            cases (show some _ = some o from hi)
            have e38 : f.tmps.getD 38 undef = undef := dep_of (V := (VBre g1 g2 l c1 c2 t x1 x2 y1 y2 r)) hdep 20 38 (by kernel_rfl) (by kernel_rfl)
            have e49 : f.tmps.getD 49 undef = undef := dep_of (V := (VBre g1 g2 l c1 c2 t x1 x2 y1 y2 r)) hdep 31 49 (by kernel_rfl) (by kernel_rfl)
            have eg : f.tmps.getD 27 undef = .bool false := dep_of (V := (VBre g1 g2 l c1 c2 t x1 x2 y1 y2 r)) hdep 9 27 (by kernel_rfl) (by kernel_rfl)
            clear hdep hsame hi
            exact .inr ⟨unwanted_of 9 rfl eg (by kernel_rfl) (by decide), (fun d h => by cases h; rfl)⟩
          | 33, hi =>
            cases (show some _ = some o from hi)
            have e27 : f.tmps.getD 27 undef = .bool false := dep_of (V := (VBre g1 g2 l c1 c2 t x1 x2 y1 y2 r)) hdep 9 27 (by kernel_rfl) (by kernel_rfl)
            have e50 : f.tmps.getD 50 undef = undef := dep_of (V := (VBre g1 g2 l c1 c2 t x1 x2 y1 y2 r)) hdep 32 50 (by kernel_rfl) (by kernel_rfl)
            clear hdep hsame hi
            exact .inl ⟨wanted_none rfl, shows_run rfl (.bool false) (by simp only [execOp, Act.eval]; go_simp) (Below.refl _ _) rfl⟩
          | n + 34, hi => exact absurd hi (by simp)
        · intro f u hsame hbel hall
          have q18 : f.tmps.getD 18 undef = .slice (some ⟨g1, 0, none⟩) l c1 := hall 0 _ 18 rfl rfl
          have q19 : f.tmps.getD 19 undef = .int .i64 (t : Int) := hall 1 _ 19 rfl rfl
          have q20 : f.tmps.getD 20 undef = .pointer (some ⟨g1, t * 64, none⟩) := hall 2 _ 20 rfl rfl
          have q21 : f.tmps.getD 21 undef = .agg (bcells x1 ++ bcells x2).toArray := hall 3 _ 21 rfl rfl
          have q22 : f.tmps.getD 22 undef = .slice (some ⟨g2, 0, none⟩) l c2 := hall 4 _ 22 rfl rfl
          have q23 : f.tmps.getD 23 undef = .int .i64 (t : Int) := hall 5 _ 23 rfl rfl
          have q24 : f.tmps.getD 24 undef = .pointer (some ⟨g2, t * 64, none⟩) := hall 6 _ 24 rfl rfl
          have q25 : f.tmps.getD 25 undef = .agg (bcells y1 ++ bcells y2).toArray := hall 7 _ 25 rfl rfl
          have q26 : f.tmps.getD 26 undef = .bool false := hall 8 _ 26 rfl rfl
          have q27 : f.tmps.getD 27 undef = .bool false := hall 9 _ 27 rfl rfl
          have q28 : f.tmps.getD 28 undef = undef := hall 10 _ 28 rfl rfl
          have q29 : f.tmps.getD 29 undef = undef := hall 11 _ 29 rfl rfl
          have q30 : f.tmps.getD 30 undef = undef := hall 12 _ 30 rfl rfl
          have q31 : f.tmps.getD 31 undef = undef := hall 13 _ 31 rfl rfl
          have q32 : f.tmps.getD 32 undef = undef := hall 14 _ 32 rfl rfl
          have q33 : f.tmps.getD 33 undef = undef := hall 15 _ 33 rfl rfl
          have q34 : f.tmps.getD 34 undef = undef := hall 16 _ 34 rfl rfl
          have q35 : f.tmps.getD 35 undef = undef := hall 17 _ 35 rfl rfl
          have q36 : f.tmps.getD 36 undef = undef := hall 18 _ 36 rfl rfl
          have q37 : f.tmps.getD 37 undef = undef := hall 19 _ 37 rfl rfl
          have q38 : f.tmps.getD 38 undef = undef := hall 20 _ 38 rfl rfl
          have q39 : f.tmps.getD 39 undef = undef := hall 21 _ 39 rfl rfl
          have q40 : f.tmps.getD 40 undef = undef := hall 22 _ 40 rfl rfl
          have q41 : f.tmps.getD 41 undef = undef := hall 23 _ 41 rfl rfl
          have q42 : f.tmps.getD 42 undef = undef := hall 24 _ 42 rfl rfl
          have q43 : f.tmps.getD 43 undef = undef := hall 25 _ 43 rfl rfl
          have q44 : f.tmps.getD 44 undef = undef := hall 26 _ 44 rfl rfl
          have q45 : f.tmps.getD 45 undef = undef := hall 27 _ 45 rfl rfl
          have q46 : f.tmps.getD 46 undef = undef := hall 28 _ 46 rfl rfl
          have q47 : f.tmps.getD 47 undef = undef := hall 29 _ 47 rfl rfl
          have q48 : f.tmps.getD 48 undef = undef := hall 30 _ 48 rfl rfl
          have q49 : f.tmps.getD 49 undef = undef := hall 31 _ 49 rfl rfl
          have q50 : f.tmps.getD 50 undef = undef := hall 32 _ 50 rfl rfl
          have q51 : f.tmps.getD 51 undef = .bool false := hall 33 _ 51 rfl rfl
          obtain rfl := frame_eq hsame [(18, .slice (some ⟨g1, 0, none⟩) l c1), (19, .int .i64 (t : Int)), (20, .pointer (some ⟨g1, t * 64, none⟩)), (21, .agg (bcells x1 ++ bcells x2).toArray), (22, .slice (some ⟨g2, 0, none⟩) l c2), (23, .int .i64 (t : Int)), (24, .pointer (some ⟨g2, t * 64, none⟩)), (25, .agg (bcells y1 ++ bcells y2).toArray), (26, .bool false), (27, .bool false), (28, undef), (29, undef), (30, undef), (31, undef), (32, undef), (33, undef), (34, undef), (35, undef), (36, undef), (37, undef), (38, undef), (39, undef), (40, undef), (41, undef), (42, undef), (43, undef), (44, undef), (45, undef), (46, undef), (47, undef), (48, undef), (49, undef), (50, undef), (51, .bool false)] (by kernel_rfl) ⟨q18, q19, q20, q21, q22, q23, q24, q25, q26, q27, q28, q29, q30, q31, q32, q33, q34, q35, q36, q37, q38, q39, q40, q41, q42, q43, q44, q45, q46, q47, q48, q49, q50, q51, trivial⟩
          clear hall hsame q18 q19 q20 q21 q22 q23 q24 q25 q26 q27 q28 q29 q30 q31 q32 q33 q34 q35 q36 q37 q38 q39 q40 q41 q42 q43 q44 q45 q46 q47 q48 q49 q50 q51
          simp only [List.foldl, List.setIfInBounds_toArray, List.set_cons_succ, List.set_cons_zero]
          have BU := Bx.mk (BW.out.trans (hbel.mono BW.out.size))
          clear hbel
          go_wp2_with fail
          go_roundw
          case rel => exact ⟨t + 1, HLT.out, by go_num, by rw [HBR.out, HDR.out]; rfl, BU.out⟩
          case measure => have := HLT.out; simp [intOf]; omega
    · obtain rfl : t = l := by omega
      have e1 : l1.drop t = [] := List.drop_eq_nil_of_le (by rw [← N1.out]; exact Nat.le_refl _)
      have hf : brokenB l1 l2 = false := by rw [HBR.out, e1]; rfl
      have HF := Bx.mk hf
      clear e1 hf hlt
      go_wp2_with fail
      exact bodyPost_ret (results_tmp rfl _ _ _) rfl ⟨by rw [HF.out]; rfl, BW.out⟩
end Go.Proofs.YtmlpldkgennmkaaDoor
