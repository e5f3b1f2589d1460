/- cartularyref09.Load. -/
import Derived.Test.YtgbafjmklefoiaaGreatDoorZ23
import Derived.Test.YtgbafjmklefoiaaGreatDoorZ24
import Derived.Test.YtgbafjmklefoiaaGreatDoorZ25
namespace Go.Proofs.YtgbafjmklefoiaaGreatDoor
set_option maxRecDepth 100000
open Go.RowKit
def VL3 (G g7 : Nat) (oi : Nat) (v : Value) (own : Nat → Option Nat) (w : World) : Prop :=
  match oi with
  | 0 => v = .agg #[.int .i64 5, .int .i64 (-1)]
  | 1 => v = .pointer none
  | 2 => OutV own w (G) 2 75 #[.int .i64 5, .int .i64 (-1)]
  | _ => True
def VL3mk : Nat → Option Nat := fun _ => none
theorem VL3_mono (G g7 : Nat) (oi oj : Nat) (v : Value) (own : Nat → Option Nat) (w : World) (own' : Nat → Option Nat) (w' : World) (hij : oi ≠ oj)   (h : VL3 G g7 oj v own w) (r : Rel VL3mk oi own w own' w') : VL3 G g7 oj v own' w' := by
  unfold VL3 at h ⊢
  split at h
  · exact h
  · exact h
  · exact h.stable r hij
  · trivial

set_option maxHeartbeats 1600000 in
theorem rmload_range (w : World) (B E : Nat) (hbad : E < B ∨ 9223372036854775808 < E) (ha : Option Addr) (n hc : Nat) :
    Calls Tryz.prog 14 #[sv B E, .slice ha n hc] w fun e w' => e = .returned (.tuple #[.pointer none, .agg #[.int .i64 5, .int .i64 (-1)]]) ∧ Below w.heap.size w w' := by
  have kb1 := er_al (Below.refl w.heap.size w) (.cells #[.int .u64 (B : Int), .int .u64 (E : Int)] 54)
  have kb := er_al kb1 (.cells #[.int .i64 0, .int .i64 0] 75)
  have xN1 := heap_alloc_new w (.cells #[.int .u64 (B : Int), .int .u64 (E : Int)] 54)
  have xN := ((er_al (Below.refl (w.alloc (.cells #[.int .u64 (B : Int), .int .u64 (E : Int)] 54)).heap.size _) (.cells #[.int .i64 0, .int .i64 0] 75)).block _ (Array.getElem?_eq_some_iff.1 xN1).1).trans xN1
  have xG := heap_alloc_new (w.alloc (.cells #[.int .u64 (B : Int), .int .u64 (E : Int)] 54)) (.cells #[.int .i64 0, .int .i64 0] 75)
  rw [show (w.alloc (.cells #[.int .u64 (B : Int), .int .u64 (E : Int)] 54)).heap.size = w.heap.size + 1 by simp] at xG
  have c2 := rcover_bad ((w.alloc (.cells #[.int .u64 (B : Int), .int .u64 (E : Int)] 54)).alloc (.cells #[.int .i64 0, .int .i64 0] 75)) B E
  unfold sv at c2 ⊢
  clear kb1 xN1
  go_enter Tryz.func14, Tryz.ntmps14
  go_upto_region 1 with (fail)
  change Code.wp _ _ _ _ ((w.alloc (.cells #[.int .u64 (B : Int), .int .u64 (E : Int)] 54)).alloc (.cells #[.int .i64 0, .int .i64 0] 75))
  generalize (w.alloc (.cells #[.int .u64 (B : Int), .int .u64 (E : Int)] 54)).alloc (.cells #[.int .i64 0, .int .i64 0] 75) = W at kb xN xG c2 ⊢
  obtain ⟨N, hN⟩ : ∃ N, N = w.heap.size := ⟨_, rfl⟩
  obtain ⟨G, hG⟩ : ∃ G, G = w.heap.size + 1 := ⟨_, rfl⟩
  rw [← hG] at xG ⊢
  rw [← hN] at xN ⊢
  have HN := Bx.mk hN; have HG := Bx.mk hG; have KB := Bx.mk kb; have XN0 := Bx.mk xN; have XG0 := Bx.mk xG
  have C2 := Bx.mk (c2 hbad)
  clear kb xN xG hN hG c2 hbad
  go_wp2_with (guard_target =~ wpList _ _ _ (⟨some 11, _, _, _, _, _⟩ :: _) _ _; refine wpList_load_row rfl 54 (.tmp 2) rfl N rfl _ _ _ _ XN0.out Tryz.underlying54 rfl sizeS ?_)
  refine C2.out.mono ?_
  rintro e W6 ⟨rfl, hb⟩
  have K6 := Bx.mk (KB.out.trans (hb.mono KB.out.size)); have XG6 := Bx.mk ((hb.block _ (Array.getElem?_eq_some_iff.1 XG0.out).1).trans XG0.out)
  clear hb C2
  go_upto_region 3 with (fail)
  change Code.wp _ _ _ _ (W6.alloc (.cells #[.int .i64 5, .int .i64 (-1)] 75))
  have k7 := er_al (Below.refl W6.heap.size W6) (.cells #[.int .i64 5, .int .i64 (-1)] 75)
  have x7 := heap_alloc_new W6 (.cells #[.int .i64 5, .int .i64 (-1)] 75)
  have XG := Bx.mk ((k7.block _ (Array.getElem?_eq_some_iff.1 XG6.out).1).trans XG6.out)
  have K7 := Bx.mk (K6.out.trans (k7.mono K6.out.size))
  have GL6 := Bx.mk (Array.getElem?_eq_some_iff.1 XG6.out).1
  generalize W6.alloc (.cells #[.int .i64 5, .int .i64 (-1)] 75) = W7 at k7 x7 XG K7 ⊢
  obtain ⟨g7, hg7⟩ : ∃ g, g = W6.heap.size := ⟨_, rfl⟩
  rw [← hg7] at x7 ⊢
  have X7 := Bx.mk x7; have GLT7 := Bx.mk (Array.getElem?_eq_some_iff.1 x7).1
  have GNE := Bx.mk (show g7 ≠ G by have := GL6.out; omega)
  have GON := Bx.mk (ownBG_none (b := G) (v := .slice none 0 0) (i := 2) (j := 2) (k := g7) (fun e => by cases e) GNE.out)
  have RLT := Bx.mk (Array.getElem?_eq_some_iff.1 XG.out).1
  have HTP := Bx.mk (fun k' (hk' : W7.heap.size ≤ k') => ownBG_none (b := G) (v := .slice none 0 0) (i := 2) (j := 2) (k := k') (fun e => by cases e) (by have := RLT.out; omega))
  clear k7 x7 hg7 K6 XG6
  refine wp_region_own8 (n := 54) VL3mk (ownBG G (.slice none 0 0) 2 2) (VL3 G g7) (by kernel_rfl) (by kernel_rfl) rfl (fun k hk => HTP.out k hk) (fun j i hj _ => by cases hj) ?_ ?_ ?_
  · exact fun oi oj v own w own' w' hij _ h r => VL3_mono G g7 oi oj v own w own' w' hij h r
  · intro oi o hi f u own hsame hsn hfr hlate hkeep8 hdep
    have hkeep := hkeep8 _ (.inl rfl)
    match oi, hi with
    | 0, hi =>
      cases (show some _ = some o from hi)
      have e7 : f.tmps.getD 7 undef = .pointer (some ⟨g7, 0, none⟩) := hsame.slot 7 (fun i o h => invB2_not 7 (by kernel_rfl) h)
      clear hdep hsame hi hlate hfr hkeep
      exact .inl ⟨wanted_none rfl, showsO_row hsn rfl 75 (.tmp 7) rfl g7 e7 #[.int .i64 5, .int .i64 (-1)] ((hsn.keep g7 GLT7.out GON.out).trans X7.out) Tryz.underlying75 rfl (by kernel_rfl) rfl⟩
    | 1, hi =>
      cases (show some _ = some o from hi)
      clear hdep hsame hi hlate hfr hkeep
      exact .inl ⟨wanted_none rfl, showsO_assign hsn rfl _ rfl rfl⟩
    | 2, hi =>
      cases (show some _ = some o from hi)
      have e5 : f.tmps.getD 5 undef = .pointer (some ⟨G, 0, none⟩) := hsame.slot 5 (fun i o h => invB2_not 5 (by kernel_rfl) h)
      have e18 : (f.tmps.getD 18 undef) = .agg #[.int .i64 5, .int .i64 (-1)] := depO (V := (VL3 G g7)) hdep 0 18 (by kernel_rfl) (by kernel_rfl)
      clear hdep hsame hi hlate hfr hkeep
      exact .inl ⟨wanted_none rfl, showsO_store_out hsn rfl 75 (.tmp 5) (.tmp 18) rfl (G) e5 XG.out (ownBG_one _ _ _ _) #[.int .i64 5, .int .i64 (-1)] e18 (by kernel_rfl) rfl (by simp [Value.oneCell']) (fun _ h => h)⟩
    | n + 3, hi => exact absurd hi (by simp)
  intro f W8 own hsame hsn hall
  have q18 : f.tmps.getD 18 undef = .agg #[.int .i64 5, .int .i64 (-1)] := finO (V := (VL3 G g7)) hall 0 18 rfl
  have q4 : f.tmps.getD 4 undef = .pointer none := finO (V := (VL3 G g7)) hall 1 4 rfl
  obtain ⟨o_2, m_2⟩ : OutV own W8 (G) 2 75 #[.int .i64 5, .int .i64 (-1)] := finN (V := (VL3 G g7)) hall 2 rfl
  obtain rfl := frame_eq hsame [(18, .agg #[.int .i64 5, .int .i64 (-1)]), (4, .pointer none)] (by kernel_rfl) ⟨q18, q4, trivial⟩
  clear hall hsame q18 q4
  simp only [List.foldl, List.setIfInBounds_toArray, List.set_cons_succ, List.set_cons_zero]
  have kbr := hsn.keepBG
  have XG8 := Bx.mk m_2
  have K8 := Bx.mk (K7.out.trans (kbr.below K7.out.size (fun k hk => by
    rcases hk with hk | hk
    · have := HG.out; omega
    · cases hk)))
  clear hsn kbr m_2 o_2
  go_wp2_with fail
  refine bodyPost_ret (res_tf rfl _ _ G _ _ _ _ rfl XG8.out Tryz.underlying75 faultZ) rfl ⟨rfl, K8.out⟩

set_option maxHeartbeats 1600000 in
theorem rmload_arg (w : World) (B E : Nat) (hBE : B ≤ E) (hE : E ≤ 2 ^ 63) (ha : Option Addr) (n hc : Nat) (hne : ¬ (coverN B E).length = n) :
    Calls Tryz.prog 14 #[sv B E, .slice ha n hc] w fun e w' => e = .returned (.tuple #[.pointer none, .agg #[.int .i64 2, .int .i64 (-1)]]) ∧ Below w.heap.size w w' := by
  obtain ⟨m, hm⟩ : ∃ m, m = (coverN B E).length := ⟨_, rfl⟩
  rw [← hm] at hne
  have f9 : ¬ (m : Int) = (n : Int) := by omega
  have HM := Bx.mk hm
  clear hne hm
  have kb1 := er_al (Below.refl w.heap.size w) (.cells #[.int .u64 (B : Int), .int .u64 (E : Int)] 54)
  have kb := er_al kb1 (.cells #[.int .i64 0, .int .i64 0] 75)
  have xN1 := heap_alloc_new w (.cells #[.int .u64 (B : Int), .int .u64 (E : Int)] 54)
  have xN := ((er_al (Below.refl (w.alloc (.cells #[.int .u64 (B : Int), .int .u64 (E : Int)] 54)).heap.size _) (.cells #[.int .i64 0, .int .i64 0] 75)).block _ (Array.getElem?_eq_some_iff.1 xN1).1).trans xN1
  have xG := heap_alloc_new (w.alloc (.cells #[.int .u64 (B : Int), .int .u64 (E : Int)] 54)) (.cells #[.int .i64 0, .int .i64 0] 75)
  rw [show (w.alloc (.cells #[.int .u64 (B : Int), .int .u64 (E : Int)] 54)).heap.size = w.heap.size + 1 by simp] at xG
  have c2 := rcover_any ((w.alloc (.cells #[.int .u64 (B : Int), .int .u64 (E : Int)] 54)).alloc (.cells #[.int .i64 0, .int .i64 0] 75)) B E
  unfold sv at c2 ⊢
  clear kb1 xN1
  go_enter Tryz.func14, Tryz.ntmps14
  go_upto_region 1 with (fail)
  change Code.wp _ _ _ _ ((w.alloc (.cells #[.int .u64 (B : Int), .int .u64 (E : Int)] 54)).alloc (.cells #[.int .i64 0, .int .i64 0] 75))
  generalize (w.alloc (.cells #[.int .u64 (B : Int), .int .u64 (E : Int)] 54)).alloc (.cells #[.int .i64 0, .int .i64 0] 75) = W at kb xN xG c2 ⊢
  obtain ⟨N, hN⟩ : ∃ N, N = w.heap.size := ⟨_, rfl⟩
  obtain ⟨G, hG⟩ : ∃ G, G = w.heap.size + 1 := ⟨_, rfl⟩
  rw [← hG] at xG ⊢
  rw [← hN] at xN ⊢
  have HN := Bx.mk hN; have HG := Bx.mk hG; have KB := Bx.mk kb; have XN0 := Bx.mk xN; have XG0 := Bx.mk xG
  have C2 := Bx.mk (c2 hBE hE)
  clear kb xN xG hN hG c2 hBE hE
  go_wp2_with (guard_target =~ wpList _ _ _ (⟨some 11, _, _, _, _, _⟩ :: _) _ _; refine wpList_load_row rfl 54 (.tmp 2) rfl N rfl _ _ _ _ XN0.out Tryz.underlying54 rfl sizeS ?_)
  refine C2.out.mono ?_
  rintro e W6 ⟨v6, rfl, hC⟩
  have hco := hC.own
  have hb := hC.below
  rw [← HM.out] at hco
  obtain ⟨ca, cc, hs6, hc1, hc2, hc3⟩ := own_shape hco
  subst hs6
  have K6 := Bx.mk (KB.out.trans (hb.mono KB.out.size)); have XG6 := Bx.mk ((hb.block _ (Array.getElem?_eq_some_iff.1 XG0.out).1).trans XG0.out)
  clear hC hco hb hc1 hc2 hc3 C2
  go_upto_region 5 with (fail)
  change Code.wp _ _ _ _ (W6.alloc (.cells #[.int .i64 0, .int .i64 0] 75))
  have k7 := er_al (Below.refl W6.heap.size W6) (.cells #[.int .i64 0, .int .i64 0] 75)
  have XG := Bx.mk ((k7.block _ (Array.getElem?_eq_some_iff.1 XG6.out).1).trans XG6.out)
  have K7 := Bx.mk (K6.out.trans (k7.mono K6.out.size))
  generalize W6.alloc (.cells #[.int .i64 0, .int .i64 0] 75) = W7 at k7 XG K7 ⊢
  have CP := Bx.mk (plainP_any W7 2 (by decide))
  clear k7 K6 XG6 f9
  go_wp2_with fail
  refine CP.out.mono ?_
  rintro e w8 ⟨rfl, hb⟩
  have X8 := Bx.mk ((hb.block _ (Array.getElem?_eq_some_iff.1 XG.out).1).trans XG.out)
  have K8 := Bx.mk (below_setRow (K7.out.trans (hb.mono K7.out.size)) (show w.heap.size ≤ G by have := HG.out; omega) #[.int .i64 2, .int .i64 (-1)])
  clear hb CP
  go_wp2_with (guard_target =~ wpList _ _ _ (⟨none, _, _, _, _, _⟩ :: _) _ _; refine wpList_store_row rfl 75 (.tmp 5) (.tmp 24) rfl G #[.int .i64 2, .int .i64 (-1)] rfl rfl _ _ X8.out (by kernel_rfl) rfl (by simp [Value.oneCell']) ?_)
  refine bodyPost_ret (res_tf rfl _ _ G _ _ _ _ rfl (setRow_heap _ G _ _ _ _ X8.out) Tryz.underlying75 faultZ) rfl ⟨rfl, K8.out⟩
def StDL (own : Nat → Option Nat) (w : World) (d B E base m : Nat) (xs : List Value) (v0 : Value) (B2 : Nat) : Prop :=
  ∃ s', OutV own w d 18 67 #[.int .u64 (B : Int), .int .u64 (E : Int), s'] ∧ GrownW own w 15 base 105 34 s' m xs v0 B2
def VLa (a1 : Option Addr) (r t m cc cg B E Z B2 cs Bq oq hc : Nat) (xs : List Value) (x : Nat × Nat) (y : List UInt8) (oi : Nat) (v : Value) (own : Nat → Option Nat) (w : World) : Prop :=
  match oi with
  | 0 => v = .pointer (some ⟨r, 0, none⟩)
  | 1 => v = .pointer (some ⟨r, 0, none⟩)
  | 2 => v = .pointer (some ⟨r, 0, none⟩)
  | 3 => v = .pointer (some ⟨r, 2, none⟩)
  | 4 => v = .slice a1 t cs
  | 5 => v = .slice (some ⟨cg, 0, none⟩) m cc
  | 6 => v = .int .i64 (t : Int)
  | 7 => v = .pointer (some ⟨cg, t * 2, none⟩)
  | 8 => v = .agg #[.int .u8 (x.1 : Int), .int .u64 (x.2 : Int)]
  | 9 => v = .slice (some ⟨Bq, oq, none⟩) m hc
  | 10 => v = .int .i64 (t : Int)
  | 11 => v = .pointer (some ⟨Bq, oq + t * 32, none⟩)
  | 12 => v = .agg (ocells y)
  | 13 => v = .agg (ncell (x.1, x.2, y))
  | 14 => BuiltV own w v 1 105 (ncell (x.1, x.2, y))
  | 15 => GrownW own w 15 Z 105 34 v (t + 1) (xs ++ (ncell (x.1, x.2, y)).toList) (.slice a1 t cs) B2
  | 16 => v = .pointer (some ⟨r, 0, none⟩)
  | 17 => v = .pointer (some ⟨r, 2, none⟩)
  | 18 => StDL own w r B E Z (t + 1) (xs ++ (ncell (x.1, x.2, y)).toList) (.slice a1 t cs) B2
  | _ => True
def VLamk : Nat → Option Nat := fun _ => none
theorem VLa_mono (a1 : Option Addr) (r t m cc cg B E Z B2 cs Bq oq hc : Nat) (xs : List Value) (x : Nat × Nat) (y : List UInt8) (oi oj : Nat) (v : Value) (own : Nat → Option Nat) (w : World) (own' : Nat → Option Nat) (w' : World) (hij : oi ≠ oj)  (hx0 : oi = 15 → oj = 18 → False) (h : VLa a1 r t m cc cg B E Z B2 cs Bq oq hc xs x y oj v own w) (r1 : Rel VLamk oi own w own' w') : VLa a1 r t m cc cg B E Z B2 cs Bq oq hc xs x y oj v own' w' := by
  unfold VLa at h ⊢
  split at h
  · exact h
  · exact h
  · exact h
  · exact h
  · exact h
  · exact h
  · exact h
  · exact h
  · exact h
  · exact h
  · exact h
  · exact h
  · exact h
  · exact h
  · exact h.stable r1
  · exact h.stable r1 hij
  · exact h
  · exact h
  · obtain ⟨s1, h1, h2⟩ := h; exact ⟨s1, h1.stable r1 hij, h2.stable r1 (fun e => hx0 e rfl)⟩
  · trivial

set_option maxHeartbeats 3200000 in
theorem rmload_any (w : World) (B E : Nat) (hBE : B ≤ E) (hE : E ≤ 2 ^ 63) (ha : Option Addr) (n hc : Nat) (hs : List (List UInt8)) (hH : Hss w (.slice ha n hc) hs) (hne : (coverN B E).length = n) :
    Calls Tryz.prog 14 #[sv B E, .slice ha n hc] w fun e w' => ∃ r s, e = .returned (.tuple #[.pointer (some ⟨r, 0, none⟩), .agg #[.int .i64 0, .int .i64 0]]) ∧ RmP w.heap.size w' r B E (zipC (coverN B E) hs) s ∧ Below w.heap.size w w' := by
  obtain ⟨m, hm⟩ : ∃ m, m = (coverN B E).length := ⟨_, rfl⟩
  have HM := Bx.mk hm
  have ML := Bx.mk (show m ≤ 128 by rw [hm]; exact cover_le hE)
  have hnl : m = hs.length := by obtain ⟨_, _, e, _, _⟩ := hH.len; cases e; omega
  obtain rfl : m = n := by omega
  have HL := Bx.mk hnl
  have HH := Bx.mk hH
  clear hH hne hnl
  clear hm
  have kb1 := er_al (Below.refl w.heap.size w) (.cells #[.int .u64 (B : Int), .int .u64 (E : Int)] 54)
  have kb := er_al kb1 (.cells #[.int .i64 0, .int .i64 0] 75)
  have xN1 := heap_alloc_new w (.cells #[.int .u64 (B : Int), .int .u64 (E : Int)] 54)
  have xN := ((er_al (Below.refl (w.alloc (.cells #[.int .u64 (B : Int), .int .u64 (E : Int)] 54)).heap.size _) (.cells #[.int .i64 0, .int .i64 0] 75)).block _ (Array.getElem?_eq_some_iff.1 xN1).1).trans xN1
  have xG := heap_alloc_new (w.alloc (.cells #[.int .u64 (B : Int), .int .u64 (E : Int)] 54)) (.cells #[.int .i64 0, .int .i64 0] 75)
  rw [show (w.alloc (.cells #[.int .u64 (B : Int), .int .u64 (E : Int)] 54)).heap.size = w.heap.size + 1 by simp] at xG
  have c2 := rcover_any ((w.alloc (.cells #[.int .u64 (B : Int), .int .u64 (E : Int)] 54)).alloc (.cells #[.int .i64 0, .int .i64 0] 75)) B E
  unfold sv at c2 ⊢
  clear kb1 xN1
  go_enter Tryz.func14, Tryz.ntmps14
  go_upto_region 1 with (fail)
  change Code.wp _ _ _ _ ((w.alloc (.cells #[.int .u64 (B : Int), .int .u64 (E : Int)] 54)).alloc (.cells #[.int .i64 0, .int .i64 0] 75))
  generalize (w.alloc (.cells #[.int .u64 (B : Int), .int .u64 (E : Int)] 54)).alloc (.cells #[.int .i64 0, .int .i64 0] 75) = W at kb xN xG c2 ⊢
  obtain ⟨N, hN⟩ : ∃ N, N = w.heap.size := ⟨_, rfl⟩
  obtain ⟨G, hG⟩ : ∃ G, G = w.heap.size + 1 := ⟨_, rfl⟩
  rw [← hG] at xG ⊢
  rw [← hN] at xN ⊢
  have HN := Bx.mk hN; have HG := Bx.mk hG; have KB := Bx.mk kb; have XN0 := Bx.mk xN; have XG0 := Bx.mk xG
  have C2 := Bx.mk (c2 hBE hE)
  clear kb xN xG hN hG c2 hBE hE
  go_wp2_with (guard_target =~ wpList _ _ _ (⟨some 11, _, _, _, _, _⟩ :: _) _ _; refine wpList_load_row rfl 54 (.tmp 2) rfl N rfl _ _ _ _ XN0.out Tryz.underlying54 rfl sizeS ?_)
  refine C2.out.mono ?_
  rintro e WC ⟨v6, rfl, hC⟩
  have hco := hC.own
  have hb := hC.below
  rw [← HM.out] at hco
  obtain ⟨ca, cc, hs6, hc1, hc2, hc3⟩ := own_shape hco
  subst hs6
  have k6b := er_al (Below.refl WC.heap.size WC) (.cells #[.int .i64 0, .int .i64 0] 75)
  have KC := Bx.mk (KB.out.trans (hb.mono KB.out.size))
  have K6' := Bx.mk (KC.out.trans (k6b.mono KC.out.size)); have hkc := Keep.of_below k6b (fun _ => False); have XN6 := Bx.mk ((k6b.block _ (Array.getElem?_eq_some_iff.1 ((hb.block _ (Array.getElem?_eq_some_iff.1 XN0.out).1).trans XN0.out)).1).trans ((hb.block _ (Array.getElem?_eq_some_iff.1 XN0.out).1).trans XN0.out)); have XG6' := Bx.mk ((k6b.block _ (Array.getElem?_eq_some_iff.1 ((hb.block _ (Array.getElem?_eq_some_iff.1 XG0.out).1).trans XG0.out)).1).trans ((hb.block _ (Array.getElem?_eq_some_iff.1 XG0.out).1).trans XG0.out))
  have OC' := Bx.mk (own_keep hco hkc (fun _ _ e => e))
  clear hC hb hc1 hc2 hc3 C2 KC k6b hkc hco
  go_upto_region 7 with (first
    | (guard_target =~ wpList _ _ _ (⟨some 25, _, _, _, _, _⟩ :: _) _ _; refine wpList_load_row rfl 54 (.tmp 2) rfl N rfl _ _ _ _ XN6.out Tryz.underlying54 rfl sizeS ?_))
  have hsz : WC.heap.size + 1 = (WC.alloc (.cells #[.int .i64 0, .int .i64 0] 75)).heap.size := by simp
  rw [hsz]
  change Code.wp _ _ _ _ ((WC.alloc (.cells #[.int .i64 0, .int .i64 0] 75)).alloc (.cells #[.int .u64 (B : Int), .int .u64 (E : Int), .slice none 0 0] 67))
  clear hsz
  generalize WC.alloc (.cells #[.int .i64 0, .int .i64 0] 75) = W6 at K6' XG6' OC' ⊢
  have K6 := K6'; have XG6 := XG6'; have OC := OC'
  clear K6' XG6' OC' XN6
  have k7 := er_al (Below.refl W6.heap.size W6) (.cells #[.int .u64 (B : Int), .int .u64 (E : Int), .slice none 0 0] 67)
  have x7 := heap_alloc_new W6 (.cells #[.int .u64 (B : Int), .int .u64 (E : Int), .slice none 0 0] 67)
  generalize W6.alloc (.cells #[.int .u64 (B : Int), .int .u64 (E : Int), .slice none 0 0] 67) = W7 at k7 x7 ⊢
  obtain ⟨r, hr⟩ : ∃ r, r = W6.heap.size := ⟨_, rfl⟩
  rw [← hr] at x7 ⊢
  obtain ⟨Z, hZ⟩ : ∃ Z, Z = W6.heap.size := ⟨_, rfl⟩
  have HZ := Bx.mk hZ; have RZ := Bx.mk (show Z ≤ r by omega)
  have R0 := Bx.mk (show RmP Z W7 r B E ((zipC (coverN B E) hs).take 0) (.slice none 0 0) from ⟨x7, RZ.out, World.ownsRow_nil _ _ _ _, fun x hx => by cases hx⟩)
  have K7 := Bx.mk k7
  have CL := Bx.mk (show (coverN B E).length = hs.length by rw [← HM.out, HL.out])
  have H32 := Bx.mk HH.out.1
  have G32 : Bx (∀ x ∈ zipC (coverN B E) hs, x.2.2.length = 32) := ⟨fun x hx => by
    unfold zipC at hx
    obtain ⟨p, hp, rfl⟩ := List.mem_map.1 hx
    exact H32.out _ (List.of_mem_zip hp).2⟩
  have GL6 := Bx.mk (Array.getElem?_eq_some_iff.1 XG6.out).1
  clear k7 x7 hr hZ
  go_wp2_with fail
  go_loopw [9] (fun iv wr => ∃ t : Nat, t ≤ m ∧ iv = .int .i64 (t : Int) ∧ ∃ s', RmP Z wr r B E ((zipC (coverN B E) hs).take t) s' ∧ Below W6.heap.size W6 wr) (fun iv _ => m - (intOf iv).toNat)
  case atStart => exact ⟨0, Nat.zero_le _, rfl, _, R0.out, K7.out⟩
  case round =>
    obtain ⟨t, ht, rfl, s1, hR, hb⟩ := hrel
    have RW := Bx.mk hR; have BW := Bx.mk hb
    clear hR hb R0 K7
    by_cases hlt : t < m
    · have TL := Bx.mk hlt
      have TP := Bx.mk (show t < hs.length by rw [← HL.out]; exact hlt)
      have TC := Bx.mk (show t < (coverN B E).length by rw [← HM.out]; exact hlt)
      obtain ⟨cg, hca⟩ : ∃ g, ca = some ⟨g, 0, none⟩ := by
        rcases Go.Joins.ownsRow_forms OC.out with ⟨-, h0⟩ | ⟨g, c', h1⟩
        · omega
        · cases h1; exact ⟨g, rfl⟩
      subst hca
      obtain ⟨-, -, -, Bq, oq, e, hbq, hrq, -⟩ := HH.out.at t TP.out
      subst e
      obtain ⟨x, hx⟩ : ∃ x : Nat × Nat, x = (coverN B E)[t]'(TC.out) := ⟨_, rfl⟩
      obtain ⟨y, hy⟩ : ∃ y, y = hs[t]'(TP.out) := ⟨_, rfl⟩
      have YL := Bx.mk (show y.length = 32 by rw [hy]; exact H32.out _ (List.getElem_mem _))
      have hrq : w.rangeAt Bq (oq + t * 32) (bcells y) := by rw [hy]; exact hrq
      have RY := Bx.mk hrq; have BQ := Bx.mk hbq
      have RX := Bx.mk (show W6.rangeAt cg (t * 2) [.int .u8 (x.1 : Int), .int .u64 (x.2 : Int)] by rw [hx]; exact own_coord OC.out TC.out HM.out)
      have CB := Bx.mk (show cg < W6.heap.size from ownsRow_lt OC.out cg rfl)
      have HT : Bx ((zipC (coverN B E) hs).take (t + 1) = (zipC (coverN B E) hs).take t ++ [(x.1, x.2, y)]) := ⟨by
        rw [List.take_succ_eq_append_getElem (by rw [zipC_len CL.out]; exact TP.out), zipC_get CL.out TP.out, hx, hy]⟩
      have TK := Bx.mk (show ((zipC (coverN B E) hs).take t).length = t by rw [List.length_take, zipC_len CL.out]; have := TP.out; omega)
      have f1 : (t : Int) < (m : Int) := by omega
      clear hx hy hrq hbq hlt ht
      have hown := RW.out.row
      rw [TK.out] at hown
      obtain ⟨a1, cs, hs1, -, -, -⟩ := own_shape hown
      subst hs1
      have OR := Bx.mk hown; have XR := Bx.mk RW.out.hb
      clear hown
      have RLT := Bx.mk (Array.getElem?_eq_some_iff.1 XR.out).1
      have RNB := Bx.mk (fun j (hj : (Value.slice a1 t cs).ownBlock = some j) => own_ne_blk OR.out XR.out (by decide) j hj)
      have HTP := Bx.mk (fun k' (hk' : wr.heap.size ≤ k') => ownBG_none (b := r) (v := .slice a1 t cs) (i := 18) (j := 15) (k := k') (fun e => by have := ownsRow_lt OR.out _ e; omega) (by have := RLT.out; omega))
      obtain ⟨i0, hi0, hz0, hz1, hz2⟩ := info_parts infoNz
      have RI := Bx.mk (And.intro hi0 (And.intro hz0 (And.intro hz1 hz2)))
      have Q1 := Bx.mk (show t + 1 ≤ maxLen by have := ML.out; have := TL.out; unfold maxLen; omega); have Q2 := Bx.mk (show (t + 1) * 48 ≤ 140737488355328 by have := ML.out; have := TL.out; omega)
      have QB := Bx.mk (show Z ≤ wr.heap.size by have := BW.out.size; have := HZ.out; omega)
      have GEZ : Bx (∀ k, (k = r ∨ (Value.slice a1 t cs).ownBlock = some k) → W6.heap.size ≤ k) := ⟨fun k hk => by
        have := RW.out.ge k hk
        have := HZ.out
        omega⟩
      clear hi0 hz0 hz1 hz2
      go_upto_region 10 with (fail)
      refine wp_region_own8 (n := 54) VLamk (ownBG r (.slice a1 t cs) 18 15) (VLa a1 r t m cc cg B E Z (wr.heap.size) cs Bq oq hc (ncells ((zipC (coverN B E) hs).take t)) x y) (by kernel_rfl) (by kernel_rfl) rfl (fun k hk => HTP.out k hk) (fun j i hj _ => by cases hj) ?_ ?_ ?_
      · exact fun oi oj v own w own' w' hij hnd h r1 => VLa_mono a1 r t m cc cg B E Z (wr.heap.size) cs Bq oq hc (ncells ((zipC (coverN B E) hs).take t)) x y oi oj v own w own' w' hij (by rintro rfl rfl; exact Bool.noConfusion (hnd.symm.trans (show depB _ 18 15 = true by kernel_rfl))) h r1
      · intro oi o hi f u own hsame hsn hfr hlate hkeep8 hdep
        have hkeep := hkeep8 _ (.inl rfl)
        match oi, hi with
        | 0, hi =>
          cases (show some _ = some o from hi)
          have e8 : f.tmps.getD 8 undef = .pointer (some ⟨r, 0, none⟩) := hsame.slot 8 (fun i o h => invB2_not 8 (by kernel_rfl) h)
          clear hdep hsame hi hlate hfr hkeep
          exact .inl ⟨wanted_none rfl, showsO_move hsn rfl _ rfl e8⟩
        | 1, hi =>
          cases (show some _ = some o from hi)
          have e8 : f.tmps.getD 8 undef = .pointer (some ⟨r, 0, none⟩) := hsame.slot 8 (fun i o h => invB2_not 8 (by kernel_rfl) h)
          clear hdep hsame hi hlate hfr hkeep
          exact .inl ⟨wanted_none rfl, showsO_move hsn rfl _ rfl e8⟩
        | 2, hi =>
          cases (show some _ = some o from hi)
          have e35 : (f.tmps.getD 35 undef) = .pointer (some ⟨r, 0, none⟩) := depO (V := (VLa a1 r t m cc cg B E Z (wr.heap.size) cs Bq oq hc (ncells ((zipC (coverN B E) hs).take t)) x y)) hdep 1 35 (by kernel_rfl) (by kernel_rfl)
          clear hdep hsame hi hlate hfr hkeep
          exact .inl ⟨wanted_none rfl, showsO_pure hsn rfl (.pointer (some ⟨r, 0, none⟩)) (by simp only [execOp, Act.eval]; go_simp) rfl⟩
        | 3, hi =>
          cases (show some _ = some o from hi)
          have e36 : (f.tmps.getD 36 undef) = .pointer (some ⟨r, 0, none⟩) := depO (V := (VLa a1 r t m cc cg B E Z (wr.heap.size) cs Bq oq hc (ncells ((zipC (coverN B E) hs).take t)) x y)) hdep 2 36 (by kernel_rfl) (by kernel_rfl)
          clear hdep hsame hi hlate hfr hkeep
          exact .inl ⟨wanted_none rfl, showsO_pure hsn rfl (.pointer (some ⟨r, 2, none⟩)) (by simp only [execOp, Act.eval]; go_simp) rfl⟩
        | 4, hi =>
          cases (show some _ = some o from hi)
          have e37 : (f.tmps.getD 37 undef) = .pointer (some ⟨r, 2, none⟩) := depO (V := (VLa a1 r t m cc cg B E Z (wr.heap.size) cs Bq oq hc (ncells ((zipC (coverN B E) hs).take t)) x y)) hdep 3 37 (by kernel_rfl) (by kernel_rfl)
          clear hdep hsame hi hlate hfr hkeep
          have c39 := er_cellAt ((hkeep8 18 (.inr (by kernel_rfl)) r RLT.out (ownBG_one _ _ _ _)).trans XR.out) 2 _ rfl
          exact .inl ⟨wanted_none rfl, showsO_pure hsn rfl (.slice a1 t cs) (by simp only [execOp, Act.eval]; go_simp) rfl⟩
        | 5, hi =>
          cases (show some _ = some o from hi)
          have e6 : f.tmps.getD 6 undef = .slice (some ⟨cg, 0, none⟩) m cc := hsame.slot 6 (fun i o h => invB2_not 6 (by kernel_rfl) h)
          clear hdep hsame hi hlate hfr hkeep
          exact .inl ⟨wanted_none rfl, showsO_move hsn rfl _ rfl e6⟩
        | 6, hi =>
          cases (show some _ = some o from hi)
          have e9 : f.tmps.getD 9 undef = .int .i64 (t : Int) := hsame.slot 9 (fun i o h => invB2_not 9 (by kernel_rfl) h)
          clear hdep hsame hi hlate hfr hkeep
          exact .inl ⟨wanted_none rfl, showsO_move hsn rfl _ rfl e9⟩
        | 7, hi =>
          cases (show some _ = some o from hi)
          have e39 : (f.tmps.getD 39 undef) = .slice (some ⟨cg, 0, none⟩) m cc := depO (V := (VLa a1 r t m cc cg B E Z (wr.heap.size) cs Bq oq hc (ncells ((zipC (coverN B E) hs).take t)) x y)) hdep 5 39 (by kernel_rfl) (by kernel_rfl)
          have e40 : (f.tmps.getD 40 undef) = .int .i64 (t : Int) := depO (V := (VLa a1 r t m cc cg B E Z (wr.heap.size) cs Bq oq hc (ncells ((zipC (coverN B E) hs).take t)) x y)) hdep 6 40 (by kernel_rfl) (by kernel_rfl)
          clear hdep hsame hi hlate hfr hkeep
          have f2 : ¬ (m : Int) ≤ (t : Int) := by have := TL.out; omega
          have f3 : (t : Int) < (m : Int) := by have := TL.out; omega
          exact .inl ⟨wanted_none rfl, showsO_pure hsn rfl (.pointer (some ⟨cg, t * 2, none⟩)) (by simp only [execOp, Act.eval]; go_simp) rfl⟩
        | 8, hi =>
          cases (show some _ = some o from hi)
          have e41 : (f.tmps.getD 41 undef) = .pointer (some ⟨cg, t * 2, none⟩) := depO (V := (VLa a1 r t m cc cg B E Z (wr.heap.size) cs Bq oq hc (ncells ((zipC (coverN B E) hs).take t)) x y)) hdep 7 41 (by kernel_rfl) (by kernel_rfl)
          clear hdep hsame hi hlate hfr hkeep
          have hz6 : Below W6.heap.size wr u := hsn.keepBG.below (B := W6.heap.size) BW.out.size (fun k hk => GEZ.out k hk)
          exact .inl ⟨wanted_none rfl, showsO_mid hsn rfl 103 (.tmp 41) rfl cg (t * 2) e41 [.int .u8 (x.1 : Int), .int .u64 (x.2 : Int)] (rangeAt_below RX.out CB.out (BW.out.trans hz6)) Tryz.underlying103 rfl sizeC rfl⟩
        | 9, hi =>
          cases (show some _ = some o from hi)
          have e1 : f.tmps.getD 1 undef = .slice (some ⟨Bq, oq, none⟩) m hc := hsame.slot 1 (fun i o h => invB2_not 1 (by kernel_rfl) h)
          clear hdep hsame hi hlate hfr hkeep
          exact .inl ⟨wanted_none rfl, showsO_move hsn rfl _ rfl e1⟩
        | 10, hi =>
          cases (show some _ = some o from hi)
          have e9 : f.tmps.getD 9 undef = .int .i64 (t : Int) := hsame.slot 9 (fun i o h => invB2_not 9 (by kernel_rfl) h)
          clear hdep hsame hi hlate hfr hkeep
          exact .inl ⟨wanted_none rfl, showsO_move hsn rfl _ rfl e9⟩
        | 11, hi =>
          cases (show some _ = some o from hi)
          have e43 : (f.tmps.getD 43 undef) = .slice (some ⟨Bq, oq, none⟩) m hc := depO (V := (VLa a1 r t m cc cg B E Z (wr.heap.size) cs Bq oq hc (ncells ((zipC (coverN B E) hs).take t)) x y)) hdep 9 43 (by kernel_rfl) (by kernel_rfl)
          have e44 : (f.tmps.getD 44 undef) = .int .i64 (t : Int) := depO (V := (VLa a1 r t m cc cg B E Z (wr.heap.size) cs Bq oq hc (ncells ((zipC (coverN B E) hs).take t)) x y)) hdep 10 44 (by kernel_rfl) (by kernel_rfl)
          clear hdep hsame hi hlate hfr hkeep
          have f2 : ¬ (m : Int) ≤ (t : Int) := by have := TL.out; omega
          have f3 : (t : Int) < (m : Int) := by have := TL.out; omega
          exact .inl ⟨wanted_none rfl, showsO_pure hsn rfl (.pointer (some ⟨Bq, oq + t * 32, none⟩)) (by simp only [execOp, Act.eval]; go_simp) rfl⟩
        | 12, hi =>
          cases (show some _ = some o from hi)
          have e45 : (f.tmps.getD 45 undef) = .pointer (some ⟨Bq, oq + t * 32, none⟩) := depO (V := (VLa a1 r t m cc cg B E Z (wr.heap.size) cs Bq oq hc (ncells ((zipC (coverN B E) hs).take t)) x y)) hdep 11 45 (by kernel_rfl) (by kernel_rfl)
          clear hdep hsame hi hlate hfr hkeep
          have hz6 : Below W6.heap.size wr u := hsn.keepBG.below (B := W6.heap.size) BW.out.size (fun k hk => GEZ.out k hk)
          exact .inl ⟨wanted_none rfl, showsO_mid hsn rfl 81 (.tmp 45) rfl Bq (oq + t * 32) e45 (bcells y) (rangeAt_below RY.out BQ.out (K6.out.trans ((BW.out.trans hz6).mono K6.out.size))) underH rfl (hszB' YL.out) rfl⟩
        | 13, hi =>
          cases (show some _ = some o from hi)
          have e42 : (f.tmps.getD 42 undef) = .agg #[.int .u8 (x.1 : Int), .int .u64 (x.2 : Int)] := depO (V := (VLa a1 r t m cc cg B E Z (wr.heap.size) cs Bq oq hc (ncells ((zipC (coverN B E) hs).take t)) x y)) hdep 8 42 (by kernel_rfl) (by kernel_rfl)
          have e46 : (f.tmps.getD 46 undef) = .agg (ocells y) := depO (V := (VLa a1 r t m cc cg B E Z (wr.heap.size) cs Bq oq hc (ncells ((zipC (coverN B E) hs).take t)) x y)) hdep 12 46 (by kernel_rfl) (by kernel_rfl)
          clear hdep hsame hi hlate hfr hkeep
          exact .inl ⟨wanted_none rfl, showsO_build hsn rfl 105 #[(0, .tmp 42), (1, .tmp 46)] rfl (ncell (x.1, x.2, y)) (by simp only [List.map_toArray, List.map_cons, List.map_nil, Act.eval]; rw [e42, e46]; exact built_node x.1 x.2 y YL.out) rfl⟩
        | 14, hi =>
          cases (show some _ = some o from hi)
          have e47 : (f.tmps.getD 47 undef) = .agg (ncell (x.1, x.2, y)) := depO (V := (VLa a1 r t m cc cg B E Z (wr.heap.size) cs Bq oq hc (ncells ((zipC (coverN B E) hs).take t)) x y)) hdep 13 47 (by kernel_rfl) (by kernel_rfl)
          clear hdep hsame hi hlate hfr hkeep
          exact .inl ⟨wanted_none rfl, showsO_built hsn rfl 1 105 (ncell (x.1, x.2, y)) (run_bs_node u (.tmp 47) rfl (ncell (x.1, x.2, y)) (ncell_size YL.out) e47) (fun h => h)⟩
        | 15, hi =>
          cases (show some _ = some o from hi)
          have e38 : (f.tmps.getD 38 undef) = .slice a1 t cs := depO (V := (VLa a1 r t m cc cg B E Z (wr.heap.size) cs Bq oq hc (ncells ((zipC (coverN B E) hs).take t)) x y)) hdep 4 38 (by kernel_rfl) (by kernel_rfl)
          have e48 : BuiltV own u (f.tmps.getD 48 undef) 1 105 (ncell (x.1, x.2, y)) := depO (V := (VLa a1 r t m cc cg B E Z (wr.heap.size) cs Bq oq hc (ncells ((zipC (coverN B E) hs).take t)) x y)) hdep 14 48 (by kernel_rfl) (by kernel_rfl)
          clear hdep hsame hi hlate hfr
          exact .inl ⟨wanted_none rfl, showsO_appendW hsn hkeep rfl (.tmp 38) (.tmp 48) 63 rfl Z 105 i0 (.agg zerosN) 34 48 underNs RI.out.1 RI.out.2.1 RI.out.2.2.1 RI.out.2.2.2 rfl (by decide) (.slice a1 t cs) t (ncells ((zipC (coverN B E) hs).take t)) e38 OR.out (fun j hj => ownBG_two hj (RNB.out j hj)) e48 (by rw [ncell_size YL.out]) (ncell_one _) Q1.out Q2.out QB.out (fun _ _ _ h => h)⟩
        | 16, hi =>
          cases (show some _ = some o from hi)
          have e34 : (f.tmps.getD 34 undef) = .pointer (some ⟨r, 0, none⟩) := depO (V := (VLa a1 r t m cc cg B E Z (wr.heap.size) cs Bq oq hc (ncells ((zipC (coverN B E) hs).take t)) x y)) hdep 0 34 (by kernel_rfl) (by kernel_rfl)
          clear hdep hsame hi hlate hfr hkeep
          exact .inl ⟨wanted_none rfl, showsO_pure hsn rfl (.pointer (some ⟨r, 0, none⟩)) (by simp only [execOp, Act.eval]; go_simp) rfl⟩
        | 17, hi =>
          cases (show some _ = some o from hi)
          have e50 : (f.tmps.getD 50 undef) = .pointer (some ⟨r, 0, none⟩) := depO (V := (VLa a1 r t m cc cg B E Z (wr.heap.size) cs Bq oq hc (ncells ((zipC (coverN B E) hs).take t)) x y)) hdep 16 50 (by kernel_rfl) (by kernel_rfl)
          clear hdep hsame hi hlate hfr hkeep
          exact .inl ⟨wanted_none rfl, showsO_pure hsn rfl (.pointer (some ⟨r, 2, none⟩)) (by simp only [execOp, Act.eval]; go_simp) rfl⟩
        | 18, hi =>
          cases (show some _ = some o from hi)
          have e49 : GrownW own u 15 Z 105 34 (f.tmps.getD 49 undef) (t + 1) ((ncells ((zipC (coverN B E) hs).take t)) ++ (ncell (x.1, x.2, y)).toList) (.slice a1 t cs) (wr.heap.size) := depO (V := (VLa a1 r t m cc cg B E Z (wr.heap.size) cs Bq oq hc (ncells ((zipC (coverN B E) hs).take t)) x y)) hdep 15 49 (by kernel_rfl) (by kernel_rfl)
          have e51 : (f.tmps.getD 51 undef) = .pointer (some ⟨r, 2, none⟩) := depO (V := (VLa a1 r t m cc cg B E Z (wr.heap.size) cs Bq oq hc (ncells ((zipC (coverN B E) hs).take t)) x y)) hdep 17 51 (by kernel_rfl) (by kernel_rfl)
          clear hdep hsame hi hlate hfr hkeep
          have hst := er_cellAt ((hkeep8 18 (.inl rfl) r RLT.out (ownBG_one _ _ _ _)).trans XR.out) 2 _ rfl
          have hfr2 := frozenC ((hkeep8 18 (.inl rfl) r RLT.out (ownBG_one _ _ _ _)).trans XR.out) 2
          obtain ⟨a9, c9, ev, _, _, _⟩ := own_shape e49.1.1
          rw [ev] at e49
          have hob : own r = some 18 := (hsn.owns r RLT.out).trans (ownBG_one _ _ _ _)
          have HQ : ∀ {v}, GrownW own u 15 Z 105 34 v (t + 1) ((ncells ((zipC (coverN B E) hs).take t)) ++ (ncell (x.1, x.2, y)).toList) (.slice a1 t cs) (wr.heap.size) → GrownW own u 15 Z 105 34 v (t + 1) ((ncells ((zipC (coverN B E) hs).take t)) ++ (ncell (x.1, x.2, y)).toList) (.slice a1 t cs) (wr.heap.size) := fun h => h
          exact .inl ⟨wanted_none rfl, showsO_store_cell hsn hkeep8 rfl r 2 #[.int .u64 (B : Int), .int .u64 (E : Int), .slice a1 t cs] 67 XR.out (ownBG_one _ _ _ _) (.slice a9 (t + 1) c9) (by simp only [execOp, Act.eval]; go_simp) (fun h => ⟨_, h, grownW_setCellG (HQ e49) r 2 _ hob (by decide)⟩)⟩
        | n + 19, hi => exact absurd hi (by simp)
      · intro f W9 own hsame hsn hall
        have q34 : f.tmps.getD 34 undef = .pointer (some ⟨r, 0, none⟩) := finO (V := (VLa a1 r t m cc cg B E Z (wr.heap.size) cs Bq oq hc (ncells ((zipC (coverN B E) hs).take t)) x y)) hall 0 34 rfl
        have q35 : f.tmps.getD 35 undef = .pointer (some ⟨r, 0, none⟩) := finO (V := (VLa a1 r t m cc cg B E Z (wr.heap.size) cs Bq oq hc (ncells ((zipC (coverN B E) hs).take t)) x y)) hall 1 35 rfl
        have q36 : f.tmps.getD 36 undef = .pointer (some ⟨r, 0, none⟩) := finO (V := (VLa a1 r t m cc cg B E Z (wr.heap.size) cs Bq oq hc (ncells ((zipC (coverN B E) hs).take t)) x y)) hall 2 36 rfl
        have q37 : f.tmps.getD 37 undef = .pointer (some ⟨r, 2, none⟩) := finO (V := (VLa a1 r t m cc cg B E Z (wr.heap.size) cs Bq oq hc (ncells ((zipC (coverN B E) hs).take t)) x y)) hall 3 37 rfl
        have q38 : f.tmps.getD 38 undef = .slice a1 t cs := finO (V := (VLa a1 r t m cc cg B E Z (wr.heap.size) cs Bq oq hc (ncells ((zipC (coverN B E) hs).take t)) x y)) hall 4 38 rfl
        have q39 : f.tmps.getD 39 undef = .slice (some ⟨cg, 0, none⟩) m cc := finO (V := (VLa a1 r t m cc cg B E Z (wr.heap.size) cs Bq oq hc (ncells ((zipC (coverN B E) hs).take t)) x y)) hall 5 39 rfl
        have q40 : f.tmps.getD 40 undef = .int .i64 (t : Int) := finO (V := (VLa a1 r t m cc cg B E Z (wr.heap.size) cs Bq oq hc (ncells ((zipC (coverN B E) hs).take t)) x y)) hall 6 40 rfl
        have q41 : f.tmps.getD 41 undef = .pointer (some ⟨cg, t * 2, none⟩) := finO (V := (VLa a1 r t m cc cg B E Z (wr.heap.size) cs Bq oq hc (ncells ((zipC (coverN B E) hs).take t)) x y)) hall 7 41 rfl
        have q42 : f.tmps.getD 42 undef = .agg #[.int .u8 (x.1 : Int), .int .u64 (x.2 : Int)] := finO (V := (VLa a1 r t m cc cg B E Z (wr.heap.size) cs Bq oq hc (ncells ((zipC (coverN B E) hs).take t)) x y)) hall 8 42 rfl
        have q43 : f.tmps.getD 43 undef = .slice (some ⟨Bq, oq, none⟩) m hc := finO (V := (VLa a1 r t m cc cg B E Z (wr.heap.size) cs Bq oq hc (ncells ((zipC (coverN B E) hs).take t)) x y)) hall 9 43 rfl
        have q44 : f.tmps.getD 44 undef = .int .i64 (t : Int) := finO (V := (VLa a1 r t m cc cg B E Z (wr.heap.size) cs Bq oq hc (ncells ((zipC (coverN B E) hs).take t)) x y)) hall 10 44 rfl
        have q45 : f.tmps.getD 45 undef = .pointer (some ⟨Bq, oq + t * 32, none⟩) := finO (V := (VLa a1 r t m cc cg B E Z (wr.heap.size) cs Bq oq hc (ncells ((zipC (coverN B E) hs).take t)) x y)) hall 11 45 rfl
        have q46 : f.tmps.getD 46 undef = .agg (ocells y) := finO (V := (VLa a1 r t m cc cg B E Z (wr.heap.size) cs Bq oq hc (ncells ((zipC (coverN B E) hs).take t)) x y)) hall 12 46 rfl
        have q47 : f.tmps.getD 47 undef = .agg (ncell (x.1, x.2, y)) := finO (V := (VLa a1 r t m cc cg B E Z (wr.heap.size) cs Bq oq hc (ncells ((zipC (coverN B E) hs).take t)) x y)) hall 13 47 rfl
        obtain ⟨g48, q48, o48, m48⟩ : BuiltV own W9 (f.tmps.getD 48 undef) 1 105 (ncell (x.1, x.2, y)) := finO (V := (VLa a1 r t m cc cg B E Z (wr.heap.size) cs Bq oq hc (ncells ((zipC (coverN B E) hs).take t)) x y)) hall 14 48 rfl
        have m49 := finO (V := (VLa a1 r t m cc cg B E Z (wr.heap.size) cs Bq oq hc (ncells ((zipC (coverN B E) hs).take t)) x y)) hall 15 49 rfl
        obtain ⟨r49, q49⟩ : ∃ r, f.tmps.getD 49 undef = r := ⟨_, rfl⟩
        rw [q49] at m49
        have q50 : f.tmps.getD 50 undef = .pointer (some ⟨r, 0, none⟩) := finO (V := (VLa a1 r t m cc cg B E Z (wr.heap.size) cs Bq oq hc (ncells ((zipC (coverN B E) hs).take t)) x y)) hall 16 50 rfl
        have q51 : f.tmps.getD 51 undef = .pointer (some ⟨r, 2, none⟩) := finO (V := (VLa a1 r t m cc cg B E Z (wr.heap.size) cs Bq oq hc (ncells ((zipC (coverN B E) hs).take t)) x y)) hall 17 51 rfl
        obtain ⟨s2, ⟨ob, hbb⟩, ⟨gw, gf⟩, gz⟩ := finN (V := (VLa a1 r t m cc cg B E Z (wr.heap.size) cs Bq oq hc (ncells ((zipC (coverN B E) hs).take t)) x y)) hall 18 rfl
        obtain rfl := frame_eq hsame [(34, .pointer (some ⟨r, 0, none⟩)), (35, .pointer (some ⟨r, 0, none⟩)), (36, .pointer (some ⟨r, 0, none⟩)), (37, .pointer (some ⟨r, 2, none⟩)), (38, .slice a1 t cs), (39, .slice (some ⟨cg, 0, none⟩) m cc), (40, .int .i64 (t : Int)), (41, .pointer (some ⟨cg, t * 2, none⟩)), (42, .agg #[.int .u8 (x.1 : Int), .int .u64 (x.2 : Int)]), (43, .slice (some ⟨Bq, oq, none⟩) m hc), (44, .int .i64 (t : Int)), (45, .pointer (some ⟨Bq, oq + t * 32, none⟩)), (46, .agg (ocells y)), (47, .agg (ncell (x.1, x.2, y))), (48, .slice (some ⟨g48, 0, none⟩) 1 1), (49, r49), (50, .pointer (some ⟨r, 0, none⟩)), (51, .pointer (some ⟨r, 2, none⟩))] (by kernel_rfl) ⟨q34, q35, q36, q37, q38, q39, q40, q41, q42, q43, q44, q45, q46, q47, q48, q49, q50, q51, trivial⟩
        clear hall hsame q34 q35 q36 q37 q38 q39 q40 q41 q42 q43 q44 q45 q46 q47 q48 q49 q50 q51
        simp only [List.foldl, List.setIfInBounds_toArray, List.set_cons_succ, List.set_cons_zero]
        have kbr := hsn.keepBG
        have B2 := Bx.mk (BW.out.trans (kbr.below (B := W6.heap.size) BW.out.size (fun k hk => GEZ.out k hk)))
        have R2 := Bx.mk (show RmP Z W9 r B E ((zipC (coverN B E) hs).take (t + 1)) s2 from ⟨hbb, RZ.out, by
          have e : ((zipC (coverN B E) hs).take (t + 1)).length = t + 1 := by rw [HT.out, List.length_append, TK.out]; rfl
          rw [e, HT.out, ncells_snoc]
          exact gw, fun x hx => G32.out x (List.mem_of_mem_take hx)⟩)
        have tl := TL.out
        have lm := ML.out
        clear hsn m49 kbr ob hbb gw gf gz
        go_wp2_with fail
        go_roundw
        case rel => exact ⟨t + 1, TL.out, by go_num, s2, R2.out, B2.out⟩
        case measure => have := TL.out; simp [intOf]; omega
    · obtain rfl : t = m := by omega
      have f1 : ¬ (t : Int) < (t : Int) := by omega
      have hrw := RW.out
      rw [List.take_of_length_le (by rw [zipC_len CL.out, ← HL.out]; exact Nat.le_refl _)] at hrw
      have R4 := Bx.mk hrw
      have X9 := Bx.mk ((BW.out.block _ GL6.out).trans XG6.out)
      have K9 := Bx.mk (below_setRow (K6.out.trans (BW.out.mono K6.out.size)) (show w.heap.size ≤ G by have := HG.out; omega) #[.int .i64 0, .int .i64 0])
      have R9 := Bx.mk ((hrw.kept (Keep.setRow wr G #[.int .i64 0, .int .i64 0]) (fun j hj e => by
        have e2 : j = G := e
        have := hrw.ge j hj
        have := HZ.out; have := GL6.out; omega)).mono (base' := w.heap.size) (by have := HZ.out; have := K6.out.size; omega))
      clear hrw ht hlt
      go_wp2_with (guard_target =~ wpList _ _ _ (⟨none, _, _, _, _, _⟩ :: _) _ _; refine wpList_store_row rfl 75 (.tmp 5) (.tmp 53) rfl G #[.int .i64 0, .int .i64 0] rfl rfl _ _ X9.out (by kernel_rfl) rfl (by simp [Value.oneCell']) ?_)
      refine bodyPost_ret (res_tf rfl _ _ G _ _ _ _ rfl (setRow_heap _ G _ _ _ _ X9.out) Tryz.underlying75 faultZ) rfl ⟨r, rfl, ⟨_, R9.out⟩, K9.out⟩
end Go.Proofs.YtgbafjmklefoiaaGreatDoor
