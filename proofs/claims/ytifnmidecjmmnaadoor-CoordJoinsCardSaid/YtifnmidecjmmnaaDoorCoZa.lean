/- CoordJoins: the inner loop, where the last two trees are joined again and again. -/
import Derived.Test.YtifnmidecjmmnaaDoorCoH
import Derived.Test.YtifnmidecjmmnaaDoorCoY
import Derived.Test.YtifnmidecjmmnaaDoorApp
import Derived.Great.BuildSlice
import Derived.IntWalk
namespace Go.Proofs.YtifnmidecjmmnaaDoor
open Go.RowKit
/-- a row of trees of the call's own -/
def RowC (base : Nat) (w : World) (v : Value) (l : List (Nat × Nat)) : Prop := w.ownsRow base 24 2 v l.length (ccells l)
theorem RowC.below {base : Nat} {w w' : World} {v : Value} {l : List (Nat × Nat)} (h : RowC base w v l) (k : Below w.heap.size w w') : RowC base w' v l := own_below h k
theorem RowC.mono {base base' : Nat} {w : World} {v : Value} {l : List (Nat × Nat)} (h : RowC base w v l) (k : base' ≤ base) : RowC base' w v l := own_mono h k
theorem own_shape {w : World} {base : Nat} {e : TypeId} {size : Nat} {v : Value} {n : Nat} {xs : List Value} (h : w.ownsRow base e size v n xs) : ∃ a c, v = .slice a n c ∧ n ≤ c ∧ c ≤ maxLen ∧ (a = none → c = 0 ∧ n = 0) := by
  rcases h.2 with ⟨rfl, rfl⟩ | ⟨g, cap, cur, rfl, hb, hh, h1, h2, _⟩
  · exact ⟨none, 0, rfl, by omega, by simp [maxLen], fun _ => ⟨rfl, rfl⟩⟩
  · exact ⟨_, _, rfl, h1, h2, fun e => by cases e⟩
theorem own_empty (w : World) : RowC w.heap.size (w.alloc (.cells #[] 24)) (.slice (some ⟨w.heap.size, 0, none⟩) 0 0) [] :=
  ⟨rfl, .inr ⟨w.heap.size, 0, #[], rfl, Nat.le_refl _, heap_alloc_new _ _, Nat.le_refl _, by simp [maxLen], rfl, rfl⟩⟩
/-- a row of trees as the source of an append -/
theorem own_src {w : World} {base : Nat} {v : Value} {l : List (Nat × Nat)} (h : RowC base w v l) :
    ∃ xa c, v = .slice xa l.length c ∧ (xa = none → c = 0 ∧ l.length = 0) ∧ ∀ w', Below w.heap.size w w' → ∀ ad, xa = some ad → ∀ j u, (ccells l)[j]? = some u → w'.cell? (ad.add j) = some u := by
  rcases h.2 with ⟨rfl, h0⟩ | ⟨g, cap, cur, rfl, hb, hg, h1, h2, h3, h4⟩
  · exact ⟨none, 0, by rw [h0], fun _ => ⟨rfl, h0⟩, fun _ _ _ h => by cases h⟩
  · refine ⟨some ⟨g, 0, none⟩, cap, rfl, fun h => (by cases h), ?_⟩
    rintro w' k ad had j u hj
    cases had
    have hg' := (k.block g (Array.getElem?_eq_some_iff.1 hg).1).trans hg
    have hj' : cur[j]? = some u := by
      rw [← h4, List.getElem?_take] at hj
      split at hj
      · rw [← Array.getElem?_toList]; exact hj
      · cases hj
    have := cell_at hg' j u hj'
    cases j <;> simpa [Addr.add] using this
theorem ccells_one (l : List (Nat × Nat)) : ∀ u ∈ ccells l, u.oneCell' = true := by
  intro u hu
  simp only [ccells, List.mem_flatMap] at hu
  obtain ⟨x, _, hx⟩ := hu
  simp at hx
  rcases hx with rfl | rfl <;> rfl
theorem wrap_small {n : Nat} (h : n < 2 ^ 63) : wrap64 (n : Int) = (n : Int) := by unfold wrap64; omega
/-- the code of a block, out of a body -/
def blockOf (n : Nat) : Code → Option Code
  | .block m c => if m = n then some c else blockOf n c
  | .seq a b => match blockOf n a with
    | some c => some c
    | none => blockOf n b
  | .loop c => blockOf n c
  | .scope c => blockOf n c
  | .cond _ a b => match blockOf n a with
    | some c => some c
    | none => blockOf n b
  | _ => none
def loopOf : Code → Option Code
  | .loop c => some c
  | _ => none
noncomputable def innerJ : Code := (((Tryd.f4.body.bind (blockOf 2)).bind loopOf).getD .skip)
theorem er_al {W w : World} (h : Below W.heap.size W w) (o : Obj) : Below W.heap.size W (w.alloc o) := h.alloc h.size o
theorem er_ald {W w : World} (h : Below W.heap.size W w) (o : Obj) : Below W.heap.size W (w.alloc o).drew := let k := er_al h o; ⟨k.os, k.tape, k.output, k.size, k.block⟩
theorem er_two (w : World) (a b : Value) (t : TypeId) (j : Nat) (u : Value) (h : [a, b][j]? = some u) : (w.alloc (.cells #[a, b] t)).cell? ((⟨w.heap.size, 0, none⟩ : Addr).add j) = some u := by
  match j, h with
  | 0, h => simp at h; subst h; simp [Addr.add]
  | 1, h => simp at h; subst h; simp [Addr.add]
theorem wrapI {n : Nat} (h : n < 2 ^ 63) : IntKind.i64.wrap (n : Int) = (n : Int) := (IntWalk.i64_left _).trans (wrap_small h)
theorem own_take {w : World} {base : Nat} {a : Option Addr} {n c : Nat} {l l' : List (Nat × Nat)} (h : w.ownsRow base 24 2 (.slice a n c) (l ++ l').length (ccells (l ++ l'))) : RowC base w (.slice a l.length c) l := by
  obtain ⟨h1, h2⟩ := h
  refine ⟨ccells_length l, ?_⟩
  rcases h2 with ⟨he, h0⟩ | ⟨g, cap, cur, he, hb, hg, hn, hm, hs, ht⟩
  · have hl : l = [] := List.eq_nil_of_length_eq_zero (by rw [List.length_append] at h0; omega)
    subst hl
    cases he
    exact .inl ⟨rfl, rfl⟩
  · cases he
    refine .inr ⟨g, c, cur, rfl, hb, hg, by simp at hn; omega, hm, hs, ?_⟩
    have : (ccells (l ++ l')).take (l.length * 2) = ccells l := by
      rw [ccells_append, List.take_append_of_le_length (by rw [ccells_length]; exact Nat.le_refl _), List.take_of_length_le (by rw [ccells_length]; exact Nat.le_refl _)]
    rw [← this, ← ht, List.take_take]
    congr 1
    rw [List.length_append]
    omega
set_option maxHeartbeats 6400000 in
set_option maxRecDepth 100000 in
theorem joins_inner (base a E : Nat) (hE : E ≤ 2 ^ 63) (l : List (Nat × Nat)) (x : Nat × Nat) (W : World) (sl0 sl1 sl2 sl3 sl4 sl5 sl6 sl7 sl8 sl9 sl10 sl11 sl12 sl13 sl14 sl15 sl16 sl17 sl18 sl19 sl20 sl21 sl22 sl23 sl24 sl25 sl26 sl27 sl28 sl29 sl30 sl31 sl32 sl33 sl34 sl35 sl36 sl37 sl38 sl39 sl40 sl41 sl42 sl43 sl44 sl45 sl46 sl47 sl48 sl49 sl50 sl51 sl52 sl53 sl54 sl55 sl56 sl57 sl58 sl59 sl60 sl61 sl62 sl63 sl64 sl65 sl66 sl67 sl68 sl69 sl70 sl71 sl72 sl73 sl74 sl75 sl76 sl77 sl78 sl79 sl80 sl81 sl82 sl83 sl84 sl85 sl86 sl87 sl88 sl89 sl90 sl91 sl92 sl93 sl94 sl95 sl96 sl97 sl98 sl99 sl100 sl101 sl102 sl103 sl104 sl105 sl106 sl107 sl108 sl109 sl110 sl111 sl112 sl113 sl114 sl115 sl116 sl117 sl118 sl119 sl120 sl121 sl122 sl123 sl124 sl125 sl126 sl127 sl128 sl129 sl130 sl131 sl132 sl133 sl134 : Value) (R : Act → World → Prop)
    (hbW : base ≤ W.heap.size) (hown : RowC base W sl13 (l ++ [x])) (hno : Norm l) (hti : Tile a E (l ++ [x]))
    (hexit : ∀ (l' : List (Nat × Nat)) (u13 u16 u17 u18 u19 u20 u88 u89 u90 u91 u92 u93 u94 u95 u96 u97 u98 u99 u100 u101 u102 u103 u104 u105 u106 u107 u108 u109 u110 u111 u112 u113 u114 u115 u116 u117 u118 u119 u120 u121 u122 u123 u124 u125 u126 u127 u128 : Value) (w' : World), RowC base w' u13 l' → Norm l' → Tile a E l' → Below base W w' → R ⟨List.toArray (sl0 :: sl1 :: sl2 :: sl3 :: sl4 :: sl5 :: sl6 :: sl7 :: sl8 :: sl9 :: sl10 :: sl11 :: sl12 :: u13 :: sl14 :: sl15 :: u16 :: u17 :: u18 :: u19 :: u20 :: sl21 :: sl22 :: sl23 :: sl24 :: sl25 :: sl26 :: sl27 :: sl28 :: sl29 :: sl30 :: sl31 :: sl32 :: sl33 :: sl34 :: sl35 :: sl36 :: sl37 :: sl38 :: sl39 :: sl40 :: sl41 :: sl42 :: sl43 :: sl44 :: sl45 :: sl46 :: sl47 :: sl48 :: sl49 :: sl50 :: sl51 :: sl52 :: sl53 :: sl54 :: sl55 :: sl56 :: sl57 :: sl58 :: sl59 :: sl60 :: sl61 :: sl62 :: sl63 :: sl64 :: sl65 :: sl66 :: sl67 :: sl68 :: sl69 :: sl70 :: sl71 :: sl72 :: sl73 :: sl74 :: sl75 :: sl76 :: sl77 :: sl78 :: sl79 :: sl80 :: sl81 :: sl82 :: sl83 :: sl84 :: sl85 :: sl86 :: sl87 :: u88 :: u89 :: u90 :: u91 :: u92 :: u93 :: u94 :: u95 :: u96 :: u97 :: u98 :: u99 :: u100 :: u101 :: u102 :: u103 :: u104 :: u105 :: u106 :: u107 :: u108 :: u109 :: u110 :: u111 :: u112 :: u113 :: u114 :: u115 :: u116 :: u117 :: u118 :: u119 :: u120 :: u121 :: u122 :: u123 :: u124 :: u125 :: u126 :: u127 :: u128 :: sl129 :: sl130 :: sl131 :: sl132 :: sl133 :: sl134 :: []), []⟩ w') :
    let Q : Exit → Act → World → Prop := fun e a w => match e with | .normal => R a w | _ => False
    Code.wp Tryd.prog (Code.loop innerJ) (Exit.inBlock 2 Q) ⟨List.toArray (sl0 :: sl1 :: sl2 :: sl3 :: sl4 :: sl5 :: sl6 :: sl7 :: sl8 :: sl9 :: sl10 :: sl11 :: sl12 :: sl13 :: sl14 :: sl15 :: sl16 :: sl17 :: sl18 :: sl19 :: sl20 :: sl21 :: sl22 :: sl23 :: sl24 :: sl25 :: sl26 :: sl27 :: sl28 :: sl29 :: sl30 :: sl31 :: sl32 :: sl33 :: sl34 :: sl35 :: sl36 :: sl37 :: sl38 :: sl39 :: sl40 :: sl41 :: sl42 :: sl43 :: sl44 :: sl45 :: sl46 :: sl47 :: sl48 :: sl49 :: sl50 :: sl51 :: sl52 :: sl53 :: sl54 :: sl55 :: sl56 :: sl57 :: sl58 :: sl59 :: sl60 :: sl61 :: sl62 :: sl63 :: sl64 :: sl65 :: sl66 :: sl67 :: sl68 :: sl69 :: sl70 :: sl71 :: sl72 :: sl73 :: sl74 :: sl75 :: sl76 :: sl77 :: sl78 :: sl79 :: sl80 :: sl81 :: sl82 :: sl83 :: sl84 :: sl85 :: sl86 :: sl87 :: sl88 :: sl89 :: sl90 :: sl91 :: sl92 :: sl93 :: sl94 :: sl95 :: sl96 :: sl97 :: sl98 :: sl99 :: sl100 :: sl101 :: sl102 :: sl103 :: sl104 :: sl105 :: sl106 :: sl107 :: sl108 :: sl109 :: sl110 :: sl111 :: sl112 :: sl113 :: sl114 :: sl115 :: sl116 :: sl117 :: sl118 :: sl119 :: sl120 :: sl121 :: sl122 :: sl123 :: sl124 :: sl125 :: sl126 :: sl127 :: sl128 :: sl129 :: sl130 :: sl131 :: sl132 :: sl133 :: sl134 :: []), []⟩ W := by
  intro Q
  have HEX := Bx.mk hexit; have HO := Bx.mk hown; have HN := Bx.mk hno; have HT := Bx.mk hti; have HE := Bx.mk hE; have HBW := Bx.mk hbW
  clear hexit hown hno hti hE hbW
  obtain ⟨i0, hi, hz0, hz1, hz2⟩ := info_parts infoC
  have HI := Bx.mk (And.intro hi (And.intro hz0 (And.intro hz1 hz2)))
  clear hi hz0 hz1 hz2
  conv => arg 2; arg 1; whnf
  go_loopg [13] (l.length + 1) (fun m v wi => ∃ (l0 : List (Nat × Nat)) (x : Nat × Nat), m = l0.length + 1 ∧ RowC base wi v (l0 ++ [x]) ∧ Norm l0 ∧ Tile a E (l0 ++ [x]) ∧ Below base W wi)
  case atStart => exact ⟨l, x, rfl, HO.out, HN.out, HT.out, ⟨rfl, rfl, rfl, Nat.le_refl _, fun _ _ => rfl⟩⟩
  case round =>
    obtain ⟨l0, x, hm, hown, hno, hti, hb⟩ := hrel
    obtain ⟨a7, c7, rfl, hc7⟩ := own_shape hown
    have QM := Bx.mk hm; have QO := Bx.mk hown; have QN := Bx.mk hno; have QT := Bx.mk hti; have QB := Bx.mk hb
    clear hm hown hno hti hb hc7
    obtain rfl | ⟨l1, y, rfl⟩ : l0 = [] ∨ ∃ l1 y, l0 = l1 ++ [y] := by
      rcases List.eq_nil_or_concat l0 with h | ⟨l1, y, h⟩
      · exact .inl h
      · exact .inr ⟨l1, y, by rw [h, List.concat_eq_append]⟩
    · go_wp2_with fail
      exact HEX.out _ _ _ _ _ _ _ _ _ _ _ _ _ _ _ _ _ _ _ _ _ _ _ _ _ _ _ _ _ _ _ _ _ _ _ _ _ _ _ _ _ _ _ _ _ _ _ _ _ QO.out trivial QT.out QB.out
    · have hN9 : l1.length + 2 ≤ 130 := by
        obtain ⟨m, q1, q2⟩ := tile_split QT.out
        have := HE.out; have := q2.le
        have q3 := cover_le (b := a) (e := m) (by omega)
        rw [← tile_lens q1 QN.out (by omega)] at q3
        simp at q3
        omega
      obtain ⟨x7, c7', hv, hnc, hcm, hcl⟩ := coords_own QO.out
      cases hv
      obtain ⟨gR, oR, rfl, hgR, hcc⟩ := hcl (by simp)
      have hlx := hcc (l1.length + 1) (by simp)
      have hly := hcc l1.length (by simp)
      rw [show (l1 ++ [y] ++ [x])[l1.length + 1]'(by simp) = x by simp [List.getElem_append_right]] at hlx
      rw [show (l1 ++ [y] ++ [x])[l1.length]'(by simp) = y by simp] at hly
      obtain ⟨hx1, hx2⟩ := hlx
      obtain ⟨hy1, hy2⟩ := hly
      clear hcl hcc
      have hlen : (l1 ++ [y] ++ [x]).length = l1.length + 2 := by simp
      rw [hlen] at hnc ⊢
      obtain ⟨r, hr⟩ : ∃ r, r = l1.length := ⟨_, rfl⟩
      obtain ⟨p7, hp⟩ : ∃ p7, p7 = l1.length + 1 := ⟨_, rfl⟩
      obtain ⟨N, hN⟩ : ∃ N, N = l1.length + 2 := ⟨_, rfl⟩
      rw [← hN] at hnc ⊢
      rw [← hr] at hy1 hy2
      rw [← hp] at hx1 hx2
      have i1 : (N : Int) - 1 = (p7 : Int) := by omega
      have i2 : (N : Int) - 2 = (r : Int) := by omega
      have i0' : (1 : Int) < (N : Int) := by omega
      have i3 : p7 < N := by omega
      have i4 : r < N := by omega
      have hp63 : p7 < 2 ^ 63 := by omega
      have hr63 : r < 2 ^ 63 := by omega
      have HP63 := Bx.mk hp63; have HR63 := Bx.mk hr63; clear hp63 hr63
      have HN' := Bx.mk hN; have HR := Bx.mk hr; have HP := Bx.mk hp; have QG := Bx.mk hgR
      clear hN hr hp hlen
      obtain ⟨ky, iy⟩ := y
      obtain ⟨kx, ix⟩ := x
      have p1 := fun u => parent_any u kx ix
      have p2 := fun u => parent_any u ky iy
      unfold cv at p1 p2
      have hnq := fun u => cv_neq u (upL kx ix) (upI kx ix) (upL ky iy) (upI ky iy)
      by_cases hs : Sibs (ky, iy) (kx, ix)
      · obtain ⟨k1, k2, k3, k4⟩ := (join_iff (by simpa using QT.out) HE.out).2 hs
        simp only at k1 k2 k3 k4
        rw [k1, k3, k4] at p1
        rw [k2] at p2
        rw [k3, k4, decide_eq_true ⟨rfl, rfl⟩] at hnq
        obtain ⟨e1, e2, _, _⟩ := up_of k2
        rw [e1, e2] at p1 p2 hnq
        obtain ⟨pu, hpu⟩ : ∃ pu, pu = ky + 1 := ⟨_, rfl⟩
        obtain ⟨pi, hpi⟩ : ∃ pi, pi = iy / 2 := ⟨_, rfl⟩
        rw [← hpu, ← hpi] at p1 p2 hnq
        have P1 := Bx.mk p1; have P2 := Bx.mk p2; have HS := Bx.mk hs; have HPU := Bx.mk hpu; have HPI := Bx.mk hpi
        clear p1 p2 k1 k2 k3 k4 e1 e2 hs hpu hpi
        have hrc : r ≤ c7 := by omega
        have hm1 : r + 1 ≤ maxLen := by have := HR.out; unfold maxLen; omega
        have hm2 : (r + 1) * 16 ≤ 140737488355328 := by have := HR.out; omega
        have M1 := Bx.mk (And.intro hm1 hm2); clear hm1 hm2
        have i5 := wrapI HP63.out; have i6 := wrapI HR63.out; have i7 := wrap_small HP63.out; have i8 := wrap_small HR63.out
        go_wp2_with fail
        refine (P1.out _).mono ?_
        rintro e' w7 ⟨rfl, hb7⟩
        have hb8 := er_al hb7 (.cells #[.int .u8 (pu : Int), .int .u64 (pi : Int)] 24)
        have hy1' := (hb8.cell (p := ⟨gR, oR + r * 2, none⟩) hgR).trans hy1
        have hy2' := (hb8.cell (p := ⟨gR, oR + r * 2 + 1, none⟩) hgR).trans hy2
        have t17 := At.new w7 24 (.int .u8 (pu : Int)) (.int .u64 (pi : Int))
        have B8 := Bx.mk hb8; clear hb7 hb8 hy1 hy2 hx1 hx2
        go_upto_region 23 with (fail)
        generalize w7.alloc (.cells #[.int .u8 (pu : Int), .int .u64 (pi : Int)] 24) = w8 at hy1' hy2' B8 t17 ⊢
        generalize w7.heap.size = n17 at t17 ⊢
        go_wp2_with fail
        refine (P2.out _).mono ?_
        rintro e' w9 ⟨rfl, hb9⟩
        have hb10 := er_al hb9 (.cells #[.int .u8 (pu : Int), .int .u64 (pi : Int)] 24)
        have t17' := t17.below hb10
        have t19 := At.new w9 24 (.int .u8 (pu : Int)) (.int .u64 (pi : Int))
        have B10 := Bx.mk (B8.out.trans (hb10.mono B8.out.size)); clear hb9 hb10 hy1' hy2' t17
        go_upto_region 24 with (fail)
        generalize w9.alloc (.cells #[.int .u8 (pu : Int), .int .u64 (pi : Int)] 24) = w10 at B10 t17' t19 ⊢
        generalize w9.heap.size = n19 at t19 ⊢
        obtain ⟨q1, q2, _, _⟩ := t17'.cells
        obtain ⟨q3, q4, _, _⟩ := t19.cells
        have T17 := Bx.mk t17'; clear t17' t19
        have how : ∀ w', Below w10.heap.size w10 w' → w'.ownsRow base 24 2 (.slice (some ⟨gR, oR, none⟩) r c7) r (ccells l1) := fun w' k => by
          have h1 := RowC.below (RowC.below QO.out B10.out) k
          unfold RowC at h1
          rw [List.append_assoc] at h1
          have h2 := own_take h1
          unfold RowC at h2
          rw [← HR.out] at h2
          exact h2
        have HOW := Bx.mk how; clear how
        have hbs : base ≤ w10.heap.size := Nat.le_trans HBW.out (Nat.le_trans QB.out.size B10.out.size)
        have HBS := Bx.mk hbs; clear hbs
        go_wp2_with fail
        go_region_law (refine step_append_src rfl (.tmp 125) (.tmp 127) 30 rfl base 24 i0 (.agg #[.int .u8 0, .int .u64 0]) 2 16 underCs HI.out.1 HI.out.2.1 HI.out.2.2.1 HI.out.2.2.2 rfl (by decide) _ r (ccells l1) rfl (HOW.out _ (er_ald (Below.refl _ _) _)) (some ⟨w10.heap.size, 0, none⟩) 1 1 (ccells [(pu, pi)]) rfl (fun h => by cases h) rfl (fun ad had j u hu => by cases had; exact er_two w10 _ _ _ j u hu) (ccells_one _) M1.out.1 M1.out.2 (Nat.le_trans HBS.out (by simp)) ?_; intro v' w11 hown' hgrow _)
        have ho11 : RowC base w11 v' (l1 ++ [(pu, pi)]) := by
          unfold RowC
          rw [ccells_append, List.length_append, ← HR.out]
          exact hown'
        have hb11 : Below base W w11 := by
          have k10 := QB.out.trans (B10.out.mono (Nat.le_trans HBW.out QB.out.size))
          exact Below.grown (k10.trans ((er_ald (Below.refl w10.heap.size w10) _).mono HBS.out)) hgrow (Nat.le_trans HBS.out (by simp)) (fun k hk => ownsRow_fresh (HOW.out w10 (Below.refl _ _)) k hk)
        have HO11 := Bx.mk ho11; have HB11 := Bx.mk hb11
        clear hown' hgrow ho11 hb11 i5 i6 i7 i8
        go_wp2_with fail
        go_roundg (l1.length + 1)
        case measure => have := QM.out; simp at this; omega
        case rel =>
          refine ⟨l1, (pu, pi), rfl, HO11.out, norm_init QN.out, ?_, HB11.out⟩
          have := tile_join (by simpa using QT.out) HE.out HS.out
          rw [HPU.out, HPI.out]
          exact this
      · have hno' : ¬ (upK kx ix = true ∧ upK ky iy = true ∧ (upL kx ix = upL ky iy ∧ upI kx ix = upI ky iy)) := fun h => hs ((join_iff (by simpa using QT.out) HE.out).1 ⟨h.1, h.2.1, h.2.2.1, h.2.2.2⟩)
        generalize upK kx ix = bx at p1 hno'
        generalize upK ky iy = byy at p2 hno'
        generalize upL kx ix = ux at p1 hno' hnq
        generalize upL ky iy = uy at p2 hno' hnq
        generalize upI kx ix = vx at p1 hno' hnq
        generalize upI ky iy = vy at p2 hno' hnq
        have P1 := Bx.mk p1; have P2 := Bx.mk p2; have HS := Bx.mk hs; have HNO := Bx.mk hno'
        clear p1 p2 hs hno'
        have i5 := wrapI HP63.out; have i6 := wrapI HR63.out; have i7 := wrap_small HP63.out; have i8 := wrap_small HR63.out
        go_wp2_with fail
        refine (P1.out _).mono ?_
        rintro e' w7 ⟨rfl, hb7⟩
        have hb8 := er_al hb7 (.cells #[.int .u8 (ux : Int), .int .u64 (vx : Int)] 24)
        have hy1' := (hb8.cell (p := ⟨gR, oR + r * 2, none⟩) hgR).trans hy1
        have hy2' := (hb8.cell (p := ⟨gR, oR + r * 2 + 1, none⟩) hgR).trans hy2
        have t17 := At.new w7 24 (.int .u8 (ux : Int)) (.int .u64 (vx : Int))
        have B8 := Bx.mk hb8; clear hb7 hb8 hy1 hy2 hx1 hx2
        go_upto_region 23 with (fail)
        generalize w7.alloc (.cells #[.int .u8 (ux : Int), .int .u64 (vx : Int)] 24) = w8 at hy1' hy2' B8 t17 ⊢
        generalize w7.heap.size = n17 at t17 ⊢
        go_wp2_with fail
        refine (P2.out _).mono ?_
        rintro e' w9 ⟨rfl, hb9⟩
        have hb10 := er_al hb9 (.cells #[.int .u8 (uy : Int), .int .u64 (vy : Int)] 24)
        have t17' := t17.below hb10
        have t19 := At.new w9 24 (.int .u8 (uy : Int)) (.int .u64 (vy : Int))
        have B10 := Bx.mk (B8.out.trans (hb10.mono B8.out.size)); clear hb9 hb10 hy1' hy2' t17
        go_upto_region 24 with (fail)
        generalize w9.alloc (.cells #[.int .u8 (uy : Int), .int .u64 (vy : Int)] 24) = w10 at B10 t17' t19 ⊢
        generalize w9.heap.size = n19 at t19 ⊢
        obtain ⟨q1, q2, _, _⟩ := t17'.cells
        obtain ⟨q3, q4, _, _⟩ := t19.cells
        have T17 := Bx.mk t17'; clear t17' t19
        have hro : RowC base w10 (.slice (some ⟨gR, oR, none⟩) N c7) (l1 ++ [(ky, iy)] ++ [(kx, ix)]) := by
          have h := RowC.below QO.out B10.out
          have e : (l1 ++ [(ky, iy)] ++ [(kx, ix)]).length = N := by rw [HN'.out]; simp
          rwa [e] at h
        have HRO := Bx.mk hro; clear hro i5 i6 i7 i8
        have hbw : Below base W w10 := QB.out.trans (B10.out.mono (Nat.le_trans HBW.out QB.out.size))
        have HBF := Bx.mk hbw; clear hbw
        have hno2 : Norm (l1 ++ [(ky, iy)] ++ [(kx, ix)]) := by
          rw [List.append_assoc]
          exact norm_snoc QN.out HS.out
        have HN2 := Bx.mk hno2; clear hno2
        cases bx with
        | false =>
          go_wp2_with fail
          exact HEX.out _ _ _ _ _ _ _ _ _ _ _ _ _ _ _ _ _ _ _ _ _ _ _ _ _ _ _ _ _ _ _ _ _ _ _ _ _ _ _ _ _ _ _ _ _ _ _ _ _ HRO.out HN2.out QT.out HBF.out
        | true =>
          cases byy with
          | false =>
            go_wp2_with fail
            exact HEX.out _ _ _ _ _ _ _ _ _ _ _ _ _ _ _ _ _ _ _ _ _ _ _ _ _ _ _ _ _ _ _ _ _ _ _ _ _ _ _ _ _ _ _ _ _ _ _ _ _ HRO.out HN2.out QT.out HBF.out
          | true =>
            have hd : decide (ux = uy ∧ vx = vy) = false := decide_eq_false (fun h => HNO.out ⟨rfl, rfl, h⟩)
            rw [hd] at hnq
            go_wp2_with fail
            exact HEX.out _ _ _ _ _ _ _ _ _ _ _ _ _ _ _ _ _ _ _ _ _ _ _ _ _ _ _ _ _ _ _ _ _ _ _ _ _ _ _ _ _ _ _ _ _ _ _ _ _ HRO.out HN2.out QT.out HBF.out
set_option maxRecDepth 100000 in
/-- the same behind whatever follows -/
theorem joins_inner_q {base a E : Nat} (hE : E ≤ 2 ^ 63) {l : List (Nat × Nat)} {x : Nat × Nat} {W : World} {sl0 sl1 sl2 sl3 sl4 sl5 sl6 sl7 sl8 sl9 sl10 sl11 sl12 sl13 sl14 sl15 sl16 sl17 sl18 sl19 sl20 sl21 sl22 sl23 sl24 sl25 sl26 sl27 sl28 sl29 sl30 sl31 sl32 sl33 sl34 sl35 sl36 sl37 sl38 sl39 sl40 sl41 sl42 sl43 sl44 sl45 sl46 sl47 sl48 sl49 sl50 sl51 sl52 sl53 sl54 sl55 sl56 sl57 sl58 sl59 sl60 sl61 sl62 sl63 sl64 sl65 sl66 sl67 sl68 sl69 sl70 sl71 sl72 sl73 sl74 sl75 sl76 sl77 sl78 sl79 sl80 sl81 sl82 sl83 sl84 sl85 sl86 sl87 sl88 sl89 sl90 sl91 sl92 sl93 sl94 sl95 sl96 sl97 sl98 sl99 sl100 sl101 sl102 sl103 sl104 sl105 sl106 sl107 sl108 sl109 sl110 sl111 sl112 sl113 sl114 sl115 sl116 sl117 sl118 sl119 sl120 sl121 sl122 sl123 sl124 sl125 sl126 sl127 sl128 sl129 sl130 sl131 sl132 sl133 sl134 : Value} {Q : Exit → Act → World → Prop}
    (hbW : base ≤ W.heap.size) (hown : RowC base W sl13 (l ++ [x])) (hno : Norm l) (hti : Tile a E (l ++ [x]))
    (hexit : ∀ (l' : List (Nat × Nat)) (u13 u16 u17 u18 u19 u20 u88 u89 u90 u91 u92 u93 u94 u95 u96 u97 u98 u99 u100 u101 u102 u103 u104 u105 u106 u107 u108 u109 u110 u111 u112 u113 u114 u115 u116 u117 u118 u119 u120 u121 u122 u123 u124 u125 u126 u127 u128 : Value) (w' : World), RowC base w' u13 l' → Norm l' → Tile a E l' → Below base W w' → Q .normal ⟨List.toArray (sl0 :: sl1 :: sl2 :: sl3 :: sl4 :: sl5 :: sl6 :: sl7 :: sl8 :: sl9 :: sl10 :: sl11 :: sl12 :: u13 :: sl14 :: sl15 :: u16 :: u17 :: u18 :: u19 :: u20 :: sl21 :: sl22 :: sl23 :: sl24 :: sl25 :: sl26 :: sl27 :: sl28 :: sl29 :: sl30 :: sl31 :: sl32 :: sl33 :: sl34 :: sl35 :: sl36 :: sl37 :: sl38 :: sl39 :: sl40 :: sl41 :: sl42 :: sl43 :: sl44 :: sl45 :: sl46 :: sl47 :: sl48 :: sl49 :: sl50 :: sl51 :: sl52 :: sl53 :: sl54 :: sl55 :: sl56 :: sl57 :: sl58 :: sl59 :: sl60 :: sl61 :: sl62 :: sl63 :: sl64 :: sl65 :: sl66 :: sl67 :: sl68 :: sl69 :: sl70 :: sl71 :: sl72 :: sl73 :: sl74 :: sl75 :: sl76 :: sl77 :: sl78 :: sl79 :: sl80 :: sl81 :: sl82 :: sl83 :: sl84 :: sl85 :: sl86 :: sl87 :: u88 :: u89 :: u90 :: u91 :: u92 :: u93 :: u94 :: u95 :: u96 :: u97 :: u98 :: u99 :: u100 :: u101 :: u102 :: u103 :: u104 :: u105 :: u106 :: u107 :: u108 :: u109 :: u110 :: u111 :: u112 :: u113 :: u114 :: u115 :: u116 :: u117 :: u118 :: u119 :: u120 :: u121 :: u122 :: u123 :: u124 :: u125 :: u126 :: u127 :: u128 :: sl129 :: sl130 :: sl131 :: sl132 :: sl133 :: sl134 :: []), []⟩ w') :
    Code.wp Tryd.prog (Code.loop innerJ) (Exit.inBlock 2 Q) ⟨List.toArray (sl0 :: sl1 :: sl2 :: sl3 :: sl4 :: sl5 :: sl6 :: sl7 :: sl8 :: sl9 :: sl10 :: sl11 :: sl12 :: sl13 :: sl14 :: sl15 :: sl16 :: sl17 :: sl18 :: sl19 :: sl20 :: sl21 :: sl22 :: sl23 :: sl24 :: sl25 :: sl26 :: sl27 :: sl28 :: sl29 :: sl30 :: sl31 :: sl32 :: sl33 :: sl34 :: sl35 :: sl36 :: sl37 :: sl38 :: sl39 :: sl40 :: sl41 :: sl42 :: sl43 :: sl44 :: sl45 :: sl46 :: sl47 :: sl48 :: sl49 :: sl50 :: sl51 :: sl52 :: sl53 :: sl54 :: sl55 :: sl56 :: sl57 :: sl58 :: sl59 :: sl60 :: sl61 :: sl62 :: sl63 :: sl64 :: sl65 :: sl66 :: sl67 :: sl68 :: sl69 :: sl70 :: sl71 :: sl72 :: sl73 :: sl74 :: sl75 :: sl76 :: sl77 :: sl78 :: sl79 :: sl80 :: sl81 :: sl82 :: sl83 :: sl84 :: sl85 :: sl86 :: sl87 :: sl88 :: sl89 :: sl90 :: sl91 :: sl92 :: sl93 :: sl94 :: sl95 :: sl96 :: sl97 :: sl98 :: sl99 :: sl100 :: sl101 :: sl102 :: sl103 :: sl104 :: sl105 :: sl106 :: sl107 :: sl108 :: sl109 :: sl110 :: sl111 :: sl112 :: sl113 :: sl114 :: sl115 :: sl116 :: sl117 :: sl118 :: sl119 :: sl120 :: sl121 :: sl122 :: sl123 :: sl124 :: sl125 :: sl126 :: sl127 :: sl128 :: sl129 :: sl130 :: sl131 :: sl132 :: sl133 :: sl134 :: []), []⟩ W := by
  refine wp_mono (joins_inner base a E hE l x W _ _ _ _ _ _ _ _ _ _ _ _ _ _ _ _ _ _ _ _ _ _ _ _ _ _ _ _ _ _ _ _ _ _ _ _ _ _ _ _ _ _ _ _ _ _ _ _ _ _ _ _ _ _ _ _ _ _ _ _ _ _ _ _ _ _ _ _ _ _ _ _ _ _ _ _ _ _ _ _ _ _ _ _ _ _ _ _ _ _ _ _ _ _ _ _ _ _ _ _ _ _ _ _ _ _ _ _ _ _ _ _ _ _ _ _ _ _ _ _ _ _ _ _ _ _ _ _ _ _ _ _ _ _ _ (Q .normal) hbW hown hno hti hexit) ?_
  intro e a' w' h
  cases e with
  | normal => exact h
  | exit id =>
    simp only [Exit.inBlock] at h ⊢
    split
    · rename_i h2
      rw [if_pos h2] at h
      exact h
    · rename_i h2
      rw [if_neg h2] at h
      exact h.elim
  | goto _ => exact h.elim
  | ret => exact h.elim
  | panic _ => exact h.elim
  | outgrown => exact h.elim
end Go.Proofs.YtifnmidecjmmnaaDoor
