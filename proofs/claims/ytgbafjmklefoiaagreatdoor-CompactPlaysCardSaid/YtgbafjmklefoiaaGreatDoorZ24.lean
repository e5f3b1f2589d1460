/- compact.Load. -/
import Derived.Test.YtgbafjmklefoiaaGreatDoorZ17
import Derived.Test.YtgbafjmklefoiaaGreatDoorZ10
namespace Go.Proofs.YtgbafjmklefoiaaGreatDoor
set_option maxRecDepth 100000
open Go.RowKit
/-- the trees with their hashes -/
def zipC (cs : List (Nat × Nat)) (hs : List (List UInt8)) : List (Nat × Nat × List UInt8) := (cs.zip hs).map fun p => (p.1.1, p.1.2, p.2)
theorem zipC_len {cs : List (Nat × Nat)} {hs : List (List UInt8)} (h : cs.length = hs.length) : (zipC cs hs).length = hs.length := by unfold zipC; rw [List.length_map, List.length_zip, h]; omega
theorem zipC_get {cs : List (Nat × Nat)} {hs : List (List UInt8)} (h : cs.length = hs.length) {t : Nat} (ht : t < hs.length) : (zipC cs hs)[t]'(by rw [zipC_len h]; exact ht) = ((cs[t]'(by omega)).1, (cs[t]'(by omega)).2, hs[t]) := by
  unfold zipC; rw [List.getElem_map, List.getElem_zip]
theorem zipC_co {cs : List (Nat × Nat)} {hs : List (List UInt8)} (h : cs.length = hs.length) : (zipC cs hs).map coC = cs := by
  unfold zipC
  rw [List.map_map]
  apply List.ext_getElem
  · rw [List.length_map, List.length_zip, h]; omega
  · intro i h1 h2
    rw [List.getElem_map, List.getElem_zip]; rfl
theorem ccells_at {l : List (Nat × Nat)} : ∀ {t : Nat} (h : t < l.length) (j : Nat), j < 2 → (ccells l)[t * 2 + j]? = ([.int .u8 (l[t].1 : Int), .int .u64 (l[t].2 : Int)] : List Value)[j]? := by
  induction l with
  | nil => intro t h; exact absurd h (Nat.not_lt_zero _)
  | cons x l ih =>
    intro t h j hj
    have e : ccells (x :: l) = [.int .u8 (x.1 : Int), .int .u64 (x.2 : Int)] ++ ccells l := rfl
    match t, h with
    | 0, h => rw [e, Nat.zero_mul, Nat.zero_add, List.getElem?_append_left (by simpa using hj)]; rfl
    | t + 1, h =>
      rw [e, List.getElem?_append_right (by simp; omega)]
      have := ih (t := t) (by simpa using h) j hj
      rw [show (t + 1) * 2 + j - [Value.int .u8 (x.1 : Int), Value.int .u64 (x.2 : Int)].length = t * 2 + j by simp; omega]
      exact this
/-- a coordinate in a row of one's own -/
theorem own_coord {w : World} {base g n c : Nat} {l : List (Nat × Nat)} (h : w.ownsRow base 103 2 (.slice (some ⟨g, 0, none⟩) n c) n (ccells l)) {t : Nat} (ht : t < l.length) (hn : n = l.length) : w.rangeAt g (t * 2) [.int .u8 (l[t].1 : Int), .int .u64 (l[t].2 : Int)] := by
  intro j v hv
  have hj : j < 2 := (List.getElem?_eq_some_iff.1 hv).1
  have h1 := World.ownsRow.cellAt h (t * 2 + j) (by omega)
  rw [ccells_at ht j hj, hv] at h1
  exact h1
def VK5 (A : Nat → Addr) (oi : Nat) (v : Value) (_own : Nat → Option Nat) (_w : World) : Prop :=
  match oi with
  | 0 => v = .iface 282 (.pointer (some (A 1)))
  | 1 => v = .pointer none
  | 2 => v = .iface 282 (.pointer (some (A 1)))
  | _ => True
def VK5mk : Nat → Option Nat := fun _ => none
theorem VK5_mono (A : Nat → Addr) (oi oj : Nat) (v : Value) (own : Nat → Option Nat) (w : World) (own' : Nat → Option Nat) (w' : World) (hij : oi ≠ oj)   (h : VK5 A oj v own w) (_r : Rel VK5mk oi own w own' w') : VK5 A oj v own' w' := by
  unfold VK5 at h ⊢
  split at h
  · exact h
  · exact h
  · exact h
  · trivial

set_option maxHeartbeats 800000 in
theorem rload_arg (A : Nat → Addr) (w : World) (B E : Nat) (hBE : B ≤ E) (hE : E ≤ 2 ^ 63) (ha : Option Addr) (n hc : Nat) (hs : List (List UInt8)) (hH : Hss w (.slice ha n hc) hs) (hE0 : Errs w A) (hz : TabZ w) (hg : 4 < w.heap.size) (hne : ¬ (coverN B E).length = n) :
    Calls Tryz.prog 13 #[sv B E, .slice ha n hc] w fun e w' => e = .returned (.tuple #[.pointer none, .iface 282 (.pointer (some (A 1)))]) ∧ Below w.heap.size w w' := by
  obtain ⟨m, hm⟩ : ∃ m, m = (coverN B E).length := ⟨_, rfl⟩
  have HM := Bx.mk hm
  have ML := Bx.mk (show m ≤ 128 by rw [hm]; exact cover_le hE)
  have HH := Bx.mk hH; have NE := Bx.mk hne; have E0 := Bx.mk hE0
  rw [← hm] at hne
  have f9 : ¬ (m : Int) = (n : Int) := by omega
  clear hH hne hE0
  clear hm
  have kb := er_al (Below.refl w.heap.size w) (.cells #[.int .u64 (B : Int), .int .u64 (E : Int)] 54)
  have xN := heap_alloc_new w (.cells #[.int .u64 (B : Int), .int .u64 (E : Int)] 54)
  have c2 := cover_any (w.alloc (.cells #[.int .u64 (B : Int), .int .u64 (E : Int)] 54)) B E hBE hE (hz.below hg kb) (by simp; omega)
  unfold sv at c2 ⊢
  go_enter Tryz.func13, Tryz.ntmps13
  go_upto_region 1 with (fail)
  change Code.wp _ _ _ _ (w.alloc (.cells #[.int .u64 (B : Int), .int .u64 (E : Int)] 54))
  generalize w.alloc (.cells #[.int .u64 (B : Int), .int .u64 (E : Int)] 54) = W0 at kb xN c2 ⊢
  obtain ⟨N, hN⟩ : ∃ N, N = w.heap.size := ⟨_, rfl⟩
  rw [← hN] at xN ⊢
  have KB := Bx.mk kb; have XN0 := Bx.mk xN; have NL := Bx.mk (show w.heap.size ≤ N by omega); have C2 := Bx.mk c2
  clear kb xN hN c2 hz hg hBE hE
  go_wp2_with (guard_target =~ wpList _ _ _ (⟨some 12, _, _, _, _, _⟩ :: _) _ _; refine wpList_load_row rfl 54 (.tmp 2) rfl N rfl _ _ _ _ XN0.out Tryz.underlying54 rfl sizeS ?_)
  refine C2.out.mono ?_
  rintro e W6 ⟨v6, rfl, hC⟩
  have hco := hC.own
  have hcb := hC.below
  rw [← HM.out] at hco
  obtain ⟨ca, cc, hs6, hc1, hc2, hc3⟩ := own_shape hco
  subst hs6
  have K6 := Bx.mk (KB.out.trans (hcb.mono KB.out.size)); have OC := Bx.mk hco; have XN := Bx.mk ((hcb.block _ (Array.getElem?_eq_some_iff.1 XN0.out).1).trans XN0.out)
  clear hC hco hcb hc1 hc2 hc3 XN0 C2 KB
  have gE : W6.cell? ⟨0, 0, none⟩ = some (.iface 282 (.pointer (some (A 1)))) := (E0.out.below K6.out).glob 1 (by decide)
  have GA := Bx.mk gE; clear gE
  go_upto_region 5 with (fail)
  refine wp_region_own8 (n := 52) VK5mk (fun _ => none) (VK5 A) (by kernel_rfl) (by kernel_rfl) rfl (fun _ _ => rfl) (fun j i hj _ => by cases hj) ?_ ?_ ?_
  · exact fun oi oj v own w own' w' hij _ h r => VK5_mono A oi oj v own w own' w' hij h r
  · intro oi o hi f u own hsame hsn hfr hlate hkeep8 hdep
    have hkeep := hkeep8 _ (.inl rfl)
    have hb6 := hsn.below (B := W6.heap.size) (fun _ _ => rfl) (Nat.le_refl _)
    match oi, hi with
    | 0, hi =>
      cases (show some _ = some o from hi)
      clear hdep hsame hi hlate hfr hkeep
      have gE := cell_keepC (Keep.of_below hb6 (fun _ => False)) GA.out (fun h => h)
      exact .inl ⟨wanted_none rfl, showsO_pure hsn rfl (.iface 282 (.pointer (some (A 1)))) (by simp only [execOp, Act.eval]; go_simp) rfl⟩
    | 1, hi =>
      cases (show some _ = some o from hi)
      clear hdep hsame hi hlate hfr hkeep
      exact .inl ⟨wanted_none rfl, showsO_assign hsn rfl _ rfl rfl⟩
    | 2, hi =>
      cases (show some _ = some o from hi)
      have e24 : (f.tmps.getD 24 undef) = .iface 282 (.pointer (some (A 1))) := depO (V := (VK5 A)) hdep 0 24 (by kernel_rfl) (by kernel_rfl)
      clear hdep hsame hi hlate hfr hkeep
      exact .inl ⟨wanted_none rfl, showsO_assign hsn rfl _ rfl e24⟩
    | n + 3, hi => exact absurd hi (by simp)
  intro fr u own hsame hsn hall
  have q24 : fr.tmps.getD 24 undef = .iface 282 (.pointer (some (A 1))) := finO (V := (VK5 A)) hall 0 24 rfl
  have q4 : fr.tmps.getD 4 undef = .pointer none := finO (V := (VK5 A)) hall 1 4 rfl
  have q5 : fr.tmps.getD 5 undef = .iface 282 (.pointer (some (A 1))) := finO (V := (VK5 A)) hall 2 5 rfl
  obtain rfl := frame_eq hsame [(24, .iface 282 (.pointer (some (A 1)))), (4, .pointer none), (5, .iface 282 (.pointer (some (A 1))))] (by kernel_rfl) ⟨q24, q4, q5, trivial⟩
  clear hall hsame q24 q4 q5
  simp only [List.foldl, List.setIfInBounds_toArray, List.set_cons_succ, List.set_cons_zero]
  have hb := hsn.below (B := W6.heap.size) (fun _ _ => rfl) (Nat.le_refl _)
  have K7 := Bx.mk (K6.out.trans (hb.mono K6.out.size))
  clear hb hsn
  go_wp2_with fail
  go_ret2
  exact ⟨rfl, K7.out⟩
def VK9 (t _m _cc cg : Nat) (x : Nat × Nat) (oi : Nat) (v : Value) (own : Nat → Option Nat) (w : World) : Prop :=
  match oi with
  | 0 => v = .int .i64 (t : Int)
  | 1 => v = .pointer (some ⟨cg, t * 2, none⟩)
  | 2 => v = .agg #[.int .u8 (x.1 : Int), .int .u64 (x.2 : Int)]
  | 3 => AllocV own w v 5 103 2
  | 4 => v = .int .i64 (t : Int)
  | 5 => StoredV own w 5 103 #[.int .u8 (x.1 : Int), .int .u64 (x.2 : Int)]
  | _ => True
def VK9mk : Nat → Option Nat := fun j => match j with | 5 => some 3 | _ => none
theorem VK9_mono (t m cc cg : Nat) (x : Nat × Nat) (oi oj : Nat) (v : Value) (own : Nat → Option Nat) (w : World) (own' : Nat → Option Nat) (w' : World) (hij : oi ≠ oj)   (h : VK9 t m cc cg x oj v own w) (r : Rel VK9mk oi own w own' w') : VK9 t m cc cg x oj v own' w' := by
  unfold VK9 at h ⊢
  split at h
  · exact h
  · exact h
  · exact h
  · exact h.stable r rfl hij
  · exact h
  · exact h.stable r hij
  · trivial

/-- what the store leaves: a range's block, its row the append's -/
def StRK (own : Nat → Option Nat) (w : World) (r B E base m : Nat) (xs : List Value) (v0 : Value) (B2 : Nat) : Prop :=
  ∃ s', OutV own w r 15 65 #[.bool true, .int .u64 (B : Int), .int .u64 (E : Int), s'] ∧ GrownW own w 12 base 105 34 s' m xs v0 B2
def VK10 (a1 : Option Addr) (r _g10 t m _cc B E base B2 cs Bq oq hc : Nat) (l0 : List Value) (x : Nat × Nat) (y : List UInt8) (oi : Nat) (v : Value) (own : Nat → Option Nat) (w : World) : Prop :=
  match oi with
  | 0 => v = .pointer (some ⟨r, 0, none⟩)
  | 1 => v = .pointer (some ⟨r, 0, none⟩)
  | 2 => v = .pointer (some ⟨r, 0, none⟩)
  | 3 => v = .pointer (some ⟨r, 3, none⟩)
  | 4 => v = .slice a1 t cs
  | 5 => v = .agg #[.int .u8 (x.1 : Int), .int .u64 (x.2 : Int)]
  | 6 => v = .slice (some ⟨Bq, oq, none⟩) m hc
  | 7 => v = .int .i64 (t : Int)
  | 8 => v = .pointer (some ⟨Bq, oq + t * 32, none⟩)
  | 9 => v = .agg (ocells (y))
  | 10 => v = .agg (ncell (x.1, x.2, y))
  | 11 => BuiltV own w v 1 105 (ncell (x.1, x.2, y))
  | 12 => GrownW own w 12 base 105 34 v (t + 1) (l0 ++ (ncell (x.1, x.2, y)).toList) (.slice a1 t cs) B2
  | 13 => v = .pointer (some ⟨r, 0, none⟩)
  | 14 => v = .pointer (some ⟨r, 3, none⟩)
  | 15 => StRK own w r B E base (t + 1) (l0 ++ (ncell (x.1, x.2, y)).toList) (.slice a1 t cs) B2
  | _ => True
def VK10mk : Nat → Option Nat := fun _ => none
theorem VK10_mono (a1 : Option Addr) (r g10 t m cc B E base B2 cs Bq oq hc : Nat) (l0 : List Value) (x : Nat × Nat) (y : List UInt8) (oi oj : Nat) (v : Value) (own : Nat → Option Nat) (w : World) (own' : Nat → Option Nat) (w' : World) (hij : oi ≠ oj)  (hx0 : oi = 12 → oj = 15 → False) (h : VK10 a1 r g10 t m cc B E base B2 cs Bq oq hc l0 x y oj v own w) (r1 : Rel VK10mk oi own w own' w') : VK10 a1 r g10 t m cc B E base B2 cs Bq oq hc l0 x y oj v own' w' := by
  unfold VK10 at h ⊢
  split at h
  · exact h
  · exact h
  · exact h
  · exact h
  · exact h
  · exact h
  · exact h
  · exact h
  · exact h
  · exact h
  · exact h
  · exact h.stable r1
  · exact h.stable r1 hij
  · exact h
  · exact h
  · obtain ⟨s1, h1, h2⟩ := h; exact ⟨s1, h1.stable r1 hij, h2.stable r1 (fun e => hx0 e rfl)⟩
  · trivial

set_option maxHeartbeats 3200000 in
theorem rload_any (w : World) (B E : Nat) (hBE : B ≤ E) (hE : E ≤ 2 ^ 63) (ha : Option Addr) (n hc : Nat) (hs : List (List UInt8)) (hH : Hss w (.slice ha n hc) hs) (hz : TabZ w) (hg : 4 < w.heap.size) (hne : (coverN B E).length = n) :
    Calls Tryz.prog 13 #[sv B E, .slice ha n hc] w fun e w' => ∃ r s, e = .returned (.tuple #[.pointer (some ⟨r, 0, none⟩), .nilIface]) ∧ RaP w.heap.size w' r B E (zipC (coverN B E) hs) s ∧ Below w.heap.size w w' := by
  obtain ⟨m, hm⟩ : ∃ m, m = (coverN B E).length := ⟨_, rfl⟩
  have HM := Bx.mk hm
  have ML := Bx.mk (show m ≤ 128 by rw [hm]; exact cover_le hE)
  have hnl : m = hs.length := by obtain ⟨_, _, e, _, _⟩ := hH.len; cases e; omega
  obtain rfl : m = n := by omega
  have HL := Bx.mk hnl
  have HH := Bx.mk hH
  clear hH hne hnl
  clear hm
  have kb := er_al (Below.refl w.heap.size w) (.cells #[.int .u64 (B : Int), .int .u64 (E : Int)] 54)
  have xN := heap_alloc_new w (.cells #[.int .u64 (B : Int), .int .u64 (E : Int)] 54)
  have c2 := cover_any (w.alloc (.cells #[.int .u64 (B : Int), .int .u64 (E : Int)] 54)) B E hBE hE (hz.below hg kb) (by simp; omega)
  unfold sv at c2 ⊢
  go_enter Tryz.func13, Tryz.ntmps13
  go_upto_region 1 with (fail)
  change Code.wp _ _ _ _ (w.alloc (.cells #[.int .u64 (B : Int), .int .u64 (E : Int)] 54))
  generalize w.alloc (.cells #[.int .u64 (B : Int), .int .u64 (E : Int)] 54) = W0 at kb xN c2 ⊢
  obtain ⟨N, hN⟩ : ∃ N, N = w.heap.size := ⟨_, rfl⟩
  rw [← hN] at xN ⊢
  have KB := Bx.mk kb; have XN0 := Bx.mk xN; have NL := Bx.mk (show w.heap.size ≤ N by omega); have C2 := Bx.mk c2
  clear kb xN hN c2 hz hg hBE hE
  go_wp2_with (guard_target =~ wpList _ _ _ (⟨some 12, _, _, _, _, _⟩ :: _) _ _; refine wpList_load_row rfl 54 (.tmp 2) rfl N rfl _ _ _ _ XN0.out Tryz.underlying54 rfl sizeS ?_)
  refine C2.out.mono ?_
  rintro e W6 ⟨v6, rfl, hC⟩
  have hco := hC.own
  have hcb := hC.below
  rw [← HM.out] at hco
  obtain ⟨ca, cc, hs6, hc1, hc2, hc3⟩ := own_shape hco
  subst hs6
  have K6 := Bx.mk (KB.out.trans (hcb.mono KB.out.size)); have OC := Bx.mk hco; have XN := Bx.mk ((hcb.block _ (Array.getElem?_eq_some_iff.1 XN0.out).1).trans XN0.out)
  clear hC hco hcb hc1 hc2 hc3 XN0 C2 KB
  go_upto_region 7 with (first
    | (guard_target =~ wpList _ _ _ (⟨some 25, _, _, _, _, _⟩ :: _) _ _; refine wpList_load_row rfl 54 (.tmp 2) rfl N rfl _ _ _ _ XN.out Tryz.underlying54 rfl sizeS ?_))
  change Code.wp _ _ _ _ (W6.alloc (.cells #[.bool true, .int .u64 (B : Int), .int .u64 (E : Int), .slice none 0 0] 65))
  have k7 := er_al (Below.refl W6.heap.size W6) (.cells #[.bool true, .int .u64 (B : Int), .int .u64 (E : Int), .slice none 0 0] 65)
  have x7 := heap_alloc_new W6 (.cells #[.bool true, .int .u64 (B : Int), .int .u64 (E : Int), .slice none 0 0] 65)
  generalize W6.alloc (.cells #[.bool true, .int .u64 (B : Int), .int .u64 (E : Int), .slice none 0 0] 65) = W at k7 x7 ⊢
  obtain ⟨r, hr⟩ : ∃ r, r = W6.heap.size := ⟨_, rfl⟩
  rw [← hr] at x7 ⊢
  obtain ⟨Z, hZ⟩ : ∃ Z, Z = W6.heap.size := ⟨_, rfl⟩
  have HZ := Bx.mk hZ; have RZ := Bx.mk (show Z ≤ r by omega)
  have R0 := Bx.mk (show RaP Z W r B E ((zipC (coverN B E) hs).take 0) (.slice none 0 0) from ⟨x7, RZ.out, World.ownsRow_nil _ _ _ _, fun x hx => by cases hx⟩)
  have K7 := Bx.mk k7
  have CL := Bx.mk (show (coverN B E).length = hs.length by rw [← HM.out, HL.out])
  have H32 := Bx.mk HH.out.1
  have G32 : Bx (∀ x ∈ zipC (coverN B E) hs, x.2.2.length = 32) := ⟨fun x hx => by
    unfold zipC at hx
    obtain ⟨p, hp, rfl⟩ := List.mem_map.1 hx
    exact H32.out _ (List.of_mem_zip hp).2⟩
  clear k7 x7 hr hZ
  go_wp2_with fail
  go_loopw [30] (fun iv wr => ∃ t : Nat, t ≤ m ∧ iv = .int .i64 (t : Int) ∧ ∃ s', RaP Z wr r B E ((zipC (coverN B E) hs).take t) s' ∧ Below W6.heap.size W6 wr) (fun iv _ => m - (intOf iv).toNat)
  case atStart => exact ⟨0, Nat.zero_le _, rfl, _, R0.out, K7.out⟩
  case round =>
    obtain ⟨t, ht, rfl, s1, hR, hb⟩ := hrel
    have RW := Bx.mk hR; have BW := Bx.mk hb
    clear hR hb R0 K7
    by_cases hlt : t < m
    · have TL := Bx.mk hlt
      have TP := Bx.mk (show t < hs.length by rw [← HL.out]; exact hlt)
      have TC := Bx.mk (show t < (coverN B E).length by rw [← HM.out]; exact hlt)
      obtain ⟨cg, hca⟩ : ∃ g, ca = some ⟨g, 0, none⟩ := by
        rcases Go.Joins.ownsRow_forms OC.out with ⟨-, h0⟩ | ⟨g, c', h1⟩
        · omega
        · cases h1; exact ⟨g, rfl⟩
      subst hca
      obtain ⟨-, -, -, Bq, oq, e, hbq, hrq, -⟩ := HH.out.at t TP.out
      subst e
      obtain ⟨x, hx⟩ : ∃ x : Nat × Nat, x = (coverN B E)[t]'(TC.out) := ⟨_, rfl⟩
      obtain ⟨y, hy⟩ : ∃ y, y = hs[t]'(TP.out) := ⟨_, rfl⟩
      have YL := Bx.mk (show y.length = 32 by rw [hy]; exact H32.out _ (List.getElem_mem _))
      have hrq : w.rangeAt Bq (oq + t * 32) (bcells y) := by rw [hy]; exact hrq
      have RY := Bx.mk hrq; have BQ := Bx.mk hbq
      have RX := Bx.mk (show W6.rangeAt cg (t * 2) [.int .u8 (x.1 : Int), .int .u64 (x.2 : Int)] by rw [hx]; exact own_coord OC.out TC.out HM.out)
      have CB := Bx.mk (show cg < W6.heap.size from ownsRow_lt OC.out cg rfl)
      have HT : Bx ((zipC (coverN B E) hs).take (t + 1) = (zipC (coverN B E) hs).take t ++ [(x.1, x.2, y)]) := ⟨by
        rw [List.take_succ_eq_append_getElem (by rw [zipC_len CL.out]; exact TP.out), zipC_get CL.out TP.out, hx, hy]⟩
      have TK := Bx.mk (show ((zipC (coverN B E) hs).take t).length = t by rw [List.length_take, zipC_len CL.out]; have := TP.out; omega)
      have f1 : (t : Int) < (m : Int) := by omega
      clear hx hy hrq hbq hlt ht
      go_upto_region 9 with (fail)
      refine wp_region_seq8 (n := 52) VK9mk (fun _ => none) (VK9 t m cc cg x) (by kernel_rfl) rfl (fun _ _ => rfl) (fun _ _ _ _ h => by cases h) ?_ ?_ ?_
      · exact fun oi oj v own w own' w' hij h r => VK9_mono t m cc cg x oi oj v own w own' w' (by omega)  h r
      · intro oi o hi f u own hsame hsn hfr hlate hkeep8 hdep
        have hkeep := hkeep8 _ (Nat.le_refl _)
        have hb6 := hsn.below (B := wr.heap.size) (fun _ _ => rfl) (Nat.le_refl _)
        match oi, hi with
        | 0, hi =>
          cases (show some _ = some o from hi)
          have e30 : f.tmps.getD 30 undef = .int .i64 (t : Int) := hlate 30 (earlyS (by kernel_rfl))
          clear hdep hsame hi hlate hfr hkeep
          exact .inl ⟨wanted_none rfl, showsO_move hsn rfl _ rfl e30⟩
        | 1, hi =>
          cases (show some _ = some o from hi)
          have e28 : f.tmps.getD 28 undef = .slice (some ⟨cg, 0, none⟩) m cc := hlate 28 (earlyS (by kernel_rfl))
          have e30 : f.tmps.getD 30 undef = .int .i64 (t : Int) := hlate 30 (earlyS (by kernel_rfl))
          clear hdep hsame hi hlate hfr hkeep
          have f2 : ¬ (m : Int) ≤ (t : Int) := by have := TL.out; omega
          have f3 : (t : Int) < (m : Int) := by have := TL.out; omega
          exact .inl ⟨wanted_none rfl, showsO_pure hsn rfl (.pointer (some ⟨cg, t * 2, none⟩)) (by simp only [execOp, Act.eval]; go_simp) rfl⟩
        | 2, hi =>
          cases (show some _ = some o from hi)
          have e33 : (f.tmps.getD 33 undef) = .pointer (some ⟨cg, t * 2, none⟩) := depS (V := (VK9 t m cc cg x)) hdep 1 33 (by decide) (by kernel_rfl)
          clear hdep hsame hi hlate hfr hkeep
          exact .inl ⟨wanted_none rfl, showsO_mid hsn rfl 103 (.tmp 33) rfl cg (t * 2) e33 [.int .u8 (x.1 : Int), .int .u64 (x.2 : Int)] (rangeAt_below RX.out CB.out (BW.out.trans (hb6.mono BW.out.size))) Tryz.underlying103 rfl sizeC rfl⟩
        | 3, hi =>
          cases (show some _ = some o from hi)
          clear hdep hsame hi hlate hkeep
          exact .inl ⟨wanted_none rfl, showsO_alloc hsn hfr rfl #[.int .u8 0, .int .u64 0] 103 5 rfl (by simp only [execOp, Act.eval]; go_simp <;> rfl) (fun h => h)⟩
        | 4, hi =>
          cases (show some _ = some o from hi)
          have e32 : (f.tmps.getD 32 undef) = .int .i64 (t : Int) := depS (V := (VK9 t m cc cg x)) hdep 0 32 (by decide) (by kernel_rfl)
          clear hdep hsame hi hlate hfr hkeep
          exact .inl ⟨wanted_none rfl, showsO_assign hsn rfl _ rfl e32⟩
        | 5, hi =>
          cases (show some _ = some o from hi)
          have e10 : AllocV own u (f.tmps.getD 10 undef) 5 103 2 := depS (V := (VK9 t m cc cg x)) hdep 3 10 (by decide) (by kernel_rfl)
          have e34 : (f.tmps.getD 34 undef) = .agg #[.int .u8 (x.1 : Int), .int .u64 (x.2 : Int)] := depS (V := (VK9 t m cc cg x)) hdep 2 34 (by decide) (by kernel_rfl)
          clear hdep hsame hi hlate hfr hkeep
          exact .inl ⟨wanted_none rfl, showsO_store_alloc hsn rfl 103 (.tmp 10) (.tmp 34) rfl e10 #[.int .u8 (x.1 : Int), .int .u64 (x.2 : Int)] e34 sizeC rfl (by simp [Value.oneCell']) (fun _ h => h)⟩
        | n + 6, hi => exact absurd hi (by simp)
      intro fr u own hsame hsn hall
      have q32 : fr.tmps.getD 32 undef = .int .i64 (t : Int) := finO (V := (VK9 t m cc cg x)) hall 0 32 rfl
      have q33 : fr.tmps.getD 33 undef = .pointer (some ⟨cg, t * 2, none⟩) := finO (V := (VK9 t m cc cg x)) hall 1 33 rfl
      have q34 : fr.tmps.getD 34 undef = .agg #[.int .u8 (x.1 : Int), .int .u64 (x.2 : Int)] := finO (V := (VK9 t m cc cg x)) hall 2 34 rfl
      obtain ⟨g10, q10, o10, m10⟩ := AllocV.stored (finO (V := (VK9 t m cc cg x)) hall 3 10 rfl) (finN (V := (VK9 t m cc cg x)) hall 5 rfl)
      have q9 : fr.tmps.getD 9 undef = .int .i64 (t : Int) := finO (V := (VK9 t m cc cg x)) hall 4 9 rfl
      obtain rfl := frame_eq hsame [(32, .int .i64 (t : Int)), (33, .pointer (some ⟨cg, t * 2, none⟩)), (34, .agg #[.int .u8 (x.1 : Int), .int .u64 (x.2 : Int)]), (10, .pointer (some ⟨g10, 0, none⟩)), (9, .int .i64 (t : Int))] (by kernel_rfl) ⟨q32, q33, q34, q10, q9, trivial⟩
      clear hall hsame q32 q33 q34 q10 q9
      simp only [List.foldl, List.setIfInBounds_toArray, List.set_cons_succ, List.set_cons_zero]
      have hb := hsn.below (B := wr.heap.size) (fun _ _ => rfl) (Nat.le_refl _)
      have R1 := Bx.mk (RW.out.below hb); have B1 := Bx.mk (BW.out.trans (hb.mono BW.out.size)); have M10 := Bx.mk m10
      clear hb hsn m10 o10 f1 RW BW
      have hown := R1.out.own
      rw [TK.out] at hown
      obtain ⟨a1, cs, hs1, -, -, -⟩ := own_shape hown
      subst hs1
      have OR := Bx.mk hown; have XR := Bx.mk R1.out.hb
      clear hown
      have RLT := Bx.mk (Array.getElem?_eq_some_iff.1 XR.out).1; have GLT := Bx.mk (Array.getElem?_eq_some_iff.1 M10.out).1
      have RNB := Bx.mk (fun j (hj : (Value.slice a1 t cs).ownBlock = some j) => own_ne_blk OR.out XR.out (by decide) j hj)
      have GNB := Bx.mk (fun j (hj : (Value.slice a1 t cs).ownBlock = some j) => own_ne_blk OR.out M10.out (by decide) j hj)
      have GNR : Bx (g10 ≠ r) := ⟨by rintro rfl; have h1 := XR.out.symm.trans M10.out; simp only [Option.some.injEq, Obj.cells.injEq] at h1; exact absurd h1.2.1 (by decide)⟩
      have GON := Bx.mk (ownBG_none (b := r) (v := .slice a1 t cs) (i := 15) (j := 12) (k := g10) (fun e => GNB.out g10 e rfl) GNR.out)
      have HTP := Bx.mk (fun k' (hk' : u.heap.size ≤ k') => ownBG_none (b := r) (v := .slice a1 t cs) (i := 15) (j := 12) (k := k') (fun e => by have := ownsRow_lt OR.out _ e; omega) (by have := RLT.out; omega))
      obtain ⟨i0, hi0, hz0, hz1, hz2⟩ := info_parts infoNz
      have RI := Bx.mk (And.intro hi0 (And.intro hz0 (And.intro hz1 hz2)))
      have Q1 := Bx.mk (show t + 1 ≤ maxLen by have := ML.out; have := TL.out; unfold maxLen; omega); have Q2 := Bx.mk (show (t + 1) * 48 ≤ 140737488355328 by have := ML.out; have := TL.out; omega)
      have QB := Bx.mk (show Z ≤ u.heap.size by have := B1.out.size; have := HZ.out; omega)
      have GEZ : Bx (∀ k, (k = r ∨ (Value.slice a1 t cs).ownBlock = some k) → W6.heap.size ≤ k) := ⟨fun k hk => by
        have := R1.out.ge k (hk.imp id (fun e => by cases a1 <;> exact e))
        have := HZ.out
        omega⟩
      clear hi0 hz0 hz1 hz2
      go_upto_region 10 with (fail)
      have hu0 : ∃ u0 : World, u0 = u := ⟨_, rfl⟩
      obtain ⟨u0, hu0⟩ := hu0
      subst hu0
      refine wp_region_own8 (n := 52) VK10mk (ownBG r (.slice a1 t cs) 15 12) (VK10 a1 r g10 t m cc B E Z (u0.heap.size) cs Bq oq hc (ncells ((zipC (coverN B E) hs).take t)) x y) (by kernel_rfl) (by kernel_rfl) rfl (fun k hk => HTP.out k hk) (fun j i hj _ => by cases hj) ?_ ?_ ?_
      · exact fun oi oj v own w own' w' hij hnd h r1 => VK10_mono a1 r g10 t m cc B E Z (u0.heap.size) cs Bq oq hc (ncells ((zipC (coverN B E) hs).take t)) x y oi oj v own w own' w' hij (by rintro rfl rfl; exact Bool.noConfusion (hnd.symm.trans (show depB _ 15 12 = true by kernel_rfl))) h r1
      · intro oi o hi f u own hsame hsn hfr hlate hkeep8 hdep
        have hkeep := hkeep8 _ (.inl rfl)
        match oi, hi with
        | 0, hi =>
          cases (show some _ = some o from hi)
          have e8 : f.tmps.getD 8 undef = .pointer (some ⟨r, 0, none⟩) := hsame.slot 8 (fun i o h => invB2_not 8 (by kernel_rfl) h)
          clear hdep hsame hi hlate hfr hkeep
          exact .inl ⟨wanted_none rfl, showsO_move hsn rfl _ rfl e8⟩
        | 1, hi =>
          cases (show some _ = some o from hi)
          have e8 : f.tmps.getD 8 undef = .pointer (some ⟨r, 0, none⟩) := hsame.slot 8 (fun i o h => invB2_not 8 (by kernel_rfl) h)
          clear hdep hsame hi hlate hfr hkeep
          exact .inl ⟨wanted_none rfl, showsO_move hsn rfl _ rfl e8⟩
        | 2, hi =>
          cases (show some _ = some o from hi)
          have e36 : (f.tmps.getD 36 undef) = .pointer (some ⟨r, 0, none⟩) := depO (V := (VK10 a1 r g10 t m cc B E Z (u0.heap.size) cs Bq oq hc (ncells ((zipC (coverN B E) hs).take t)) x y)) hdep 1 36 (by kernel_rfl) (by kernel_rfl)
          clear hdep hsame hi hlate hfr hkeep
          exact .inl ⟨wanted_none rfl, showsO_pure hsn rfl (.pointer (some ⟨r, 0, none⟩)) (by simp only [execOp, Act.eval]; go_simp) rfl⟩
        | 3, hi =>
          cases (show some _ = some o from hi)
          have e37 : (f.tmps.getD 37 undef) = .pointer (some ⟨r, 0, none⟩) := depO (V := (VK10 a1 r g10 t m cc B E Z (u0.heap.size) cs Bq oq hc (ncells ((zipC (coverN B E) hs).take t)) x y)) hdep 2 37 (by kernel_rfl) (by kernel_rfl)
          clear hdep hsame hi hlate hfr hkeep
          exact .inl ⟨wanted_none rfl, showsO_pure hsn rfl (.pointer (some ⟨r, 3, none⟩)) (by simp only [execOp, Act.eval]; go_simp) rfl⟩
        | 4, hi =>
          cases (show some _ = some o from hi)
          have e38 : (f.tmps.getD 38 undef) = .pointer (some ⟨r, 3, none⟩) := depO (V := (VK10 a1 r g10 t m cc B E Z (u0.heap.size) cs Bq oq hc (ncells ((zipC (coverN B E) hs).take t)) x y)) hdep 3 38 (by kernel_rfl) (by kernel_rfl)
          clear hdep hsame hi hlate hfr hkeep
          have c39 := er_cellAt ((hkeep8 15 (.inr (by kernel_rfl)) r RLT.out (ownBG_one _ _ _ _)).trans XR.out) 3 _ rfl
          exact .inl ⟨wanted_none rfl, showsO_pure hsn rfl (.slice a1 t cs) (by simp only [execOp, Act.eval]; go_simp) rfl⟩
        | 5, hi =>
          cases (show some _ = some o from hi)
          have e10 : f.tmps.getD 10 undef = .pointer (some ⟨g10, 0, none⟩) := hsame.slot 10 (fun i o h => invB2_not 10 (by kernel_rfl) h)
          clear hdep hsame hi hlate hfr hkeep
          exact .inl ⟨wanted_none rfl, showsO_row hsn rfl 103 (.tmp 10) rfl g10 e10 #[.int .u8 (x.1 : Int), .int .u64 (x.2 : Int)] ((hsn.keep g10 GLT.out GON.out).trans M10.out) Tryz.underlying103 rfl sizeC rfl⟩
        | 6, hi =>
          cases (show some _ = some o from hi)
          have e1 : f.tmps.getD 1 undef = .slice (some ⟨Bq, oq, none⟩) m hc := hsame.slot 1 (fun i o h => invB2_not 1 (by kernel_rfl) h)
          clear hdep hsame hi hlate hfr hkeep
          exact .inl ⟨wanted_none rfl, showsO_move hsn rfl _ rfl e1⟩
        | 7, hi =>
          cases (show some _ = some o from hi)
          have e9 : f.tmps.getD 9 undef = .int .i64 (t : Int) := hsame.slot 9 (fun i o h => invB2_not 9 (by kernel_rfl) h)
          clear hdep hsame hi hlate hfr hkeep
          exact .inl ⟨wanted_none rfl, showsO_move hsn rfl _ rfl e9⟩
        | 8, hi =>
          cases (show some _ = some o from hi)
          have e41 : (f.tmps.getD 41 undef) = .slice (some ⟨Bq, oq, none⟩) m hc := depO (V := (VK10 a1 r g10 t m cc B E Z (u0.heap.size) cs Bq oq hc (ncells ((zipC (coverN B E) hs).take t)) x y)) hdep 6 41 (by kernel_rfl) (by kernel_rfl)
          have e42 : (f.tmps.getD 42 undef) = .int .i64 (t : Int) := depO (V := (VK10 a1 r g10 t m cc B E Z (u0.heap.size) cs Bq oq hc (ncells ((zipC (coverN B E) hs).take t)) x y)) hdep 7 42 (by kernel_rfl) (by kernel_rfl)
          clear hdep hsame hi hlate hfr hkeep
          have f2 : ¬ (m : Int) ≤ (t : Int) := by have := TL.out; omega
          have f3 : (t : Int) < (m : Int) := by have := TL.out; omega
          exact .inl ⟨wanted_none rfl, showsO_pure hsn rfl (.pointer (some ⟨Bq, oq + t * 32, none⟩)) (by simp only [execOp, Act.eval]; go_simp) rfl⟩
        | 9, hi =>
          cases (show some _ = some o from hi)
          have e43 : (f.tmps.getD 43 undef) = .pointer (some ⟨Bq, oq + t * 32, none⟩) := depO (V := (VK10 a1 r g10 t m cc B E Z (u0.heap.size) cs Bq oq hc (ncells ((zipC (coverN B E) hs).take t)) x y)) hdep 8 43 (by kernel_rfl) (by kernel_rfl)
          clear hdep hsame hi hlate hfr hkeep
          have hz6 : Below W6.heap.size u0 u := hsn.keepBG.below (B := W6.heap.size) B1.out.size (fun k hk => GEZ.out k hk)
          exact .inl ⟨wanted_none rfl, showsO_mid hsn rfl 81 (.tmp 43) rfl Bq (oq + t * 32) e43 (bcells y) (rangeAt_below RY.out BQ.out (K6.out.trans ((B1.out.trans hz6).mono K6.out.size))) underH rfl (hszB' YL.out) rfl⟩
        | 10, hi =>
          cases (show some _ = some o from hi)
          have e40 : (f.tmps.getD 40 undef) = .agg #[.int .u8 (x.1 : Int), .int .u64 (x.2 : Int)] := depO (V := (VK10 a1 r g10 t m cc B E Z (u0.heap.size) cs Bq oq hc (ncells ((zipC (coverN B E) hs).take t)) x y)) hdep 5 40 (by kernel_rfl) (by kernel_rfl)
          have e44 : (f.tmps.getD 44 undef) = .agg (ocells (y)) := depO (V := (VK10 a1 r g10 t m cc B E Z (u0.heap.size) cs Bq oq hc (ncells ((zipC (coverN B E) hs).take t)) x y)) hdep 9 44 (by kernel_rfl) (by kernel_rfl)
          clear hdep hsame hi hlate hfr hkeep
          exact .inl ⟨wanted_none rfl, showsO_build hsn rfl 105 #[(0, .tmp 40), (1, .tmp 44)] rfl (ncell (x.1, x.2, y)) (by simp only [List.map_toArray, List.map_cons, List.map_nil, Act.eval]; rw [e40, e44]; exact built_node x.1 x.2 y YL.out) rfl⟩
        | 11, hi =>
          cases (show some _ = some o from hi)
          have e45 : (f.tmps.getD 45 undef) = .agg (ncell (x.1, x.2, y)) := depO (V := (VK10 a1 r g10 t m cc B E Z (u0.heap.size) cs Bq oq hc (ncells ((zipC (coverN B E) hs).take t)) x y)) hdep 10 45 (by kernel_rfl) (by kernel_rfl)
          clear hdep hsame hi hlate hfr hkeep
          exact .inl ⟨wanted_none rfl, showsO_built hsn rfl 1 105 (ncell (x.1, x.2, y)) (run_bs_node u (.tmp 45) rfl (ncell (x.1, x.2, y)) (ncell_size YL.out) e45) (fun h => h)⟩
        | 12, hi =>
          cases (show some _ = some o from hi)
          have e39 : (f.tmps.getD 39 undef) = .slice a1 t cs := depO (V := (VK10 a1 r g10 t m cc B E Z (u0.heap.size) cs Bq oq hc (ncells ((zipC (coverN B E) hs).take t)) x y)) hdep 4 39 (by kernel_rfl) (by kernel_rfl)
          have e46 : BuiltV own u (f.tmps.getD 46 undef) 1 105 (ncell (x.1, x.2, y)) := depO (V := (VK10 a1 r g10 t m cc B E Z (u0.heap.size) cs Bq oq hc (ncells ((zipC (coverN B E) hs).take t)) x y)) hdep 11 46 (by kernel_rfl) (by kernel_rfl)
          clear hdep hsame hi hlate hfr
          exact .inl ⟨wanted_none rfl, showsO_appendW hsn hkeep rfl (.tmp 39) (.tmp 46) 63 rfl Z 105 i0 (.agg zerosN) 34 48 underNs RI.out.1 RI.out.2.1 RI.out.2.2.1 RI.out.2.2.2 rfl (by decide) (.slice a1 t cs) t (ncells ((zipC (coverN B E) hs).take t)) e39 OR.out (fun j hj => ownBG_two hj (RNB.out j hj)) e46 (by rw [ncell_size YL.out]) (ncell_one _) Q1.out Q2.out QB.out (fun _ _ _ h => h)⟩
        | 13, hi =>
          cases (show some _ = some o from hi)
          have e35 : (f.tmps.getD 35 undef) = .pointer (some ⟨r, 0, none⟩) := depO (V := (VK10 a1 r g10 t m cc B E Z (u0.heap.size) cs Bq oq hc (ncells ((zipC (coverN B E) hs).take t)) x y)) hdep 0 35 (by kernel_rfl) (by kernel_rfl)
          clear hdep hsame hi hlate hfr hkeep
          exact .inl ⟨wanted_none rfl, showsO_pure hsn rfl (.pointer (some ⟨r, 0, none⟩)) (by simp only [execOp, Act.eval]; go_simp) rfl⟩
        | 14, hi =>
          cases (show some _ = some o from hi)
          have e48 : (f.tmps.getD 48 undef) = .pointer (some ⟨r, 0, none⟩) := depO (V := (VK10 a1 r g10 t m cc B E Z (u0.heap.size) cs Bq oq hc (ncells ((zipC (coverN B E) hs).take t)) x y)) hdep 13 48 (by kernel_rfl) (by kernel_rfl)
          clear hdep hsame hi hlate hfr hkeep
          exact .inl ⟨wanted_none rfl, showsO_pure hsn rfl (.pointer (some ⟨r, 3, none⟩)) (by simp only [execOp, Act.eval]; go_simp) rfl⟩
        | 15, hi =>
          cases (show some _ = some o from hi)
          have e47 : GrownW own u 12 Z 105 34 (f.tmps.getD 47 undef) (t + 1) ((ncells ((zipC (coverN B E) hs).take t)) ++ (ncell (x.1, x.2, y)).toList) (.slice a1 t cs) (u0.heap.size) := depO (V := (VK10 a1 r g10 t m cc B E Z (u0.heap.size) cs Bq oq hc (ncells ((zipC (coverN B E) hs).take t)) x y)) hdep 12 47 (by kernel_rfl) (by kernel_rfl)
          have e49 : (f.tmps.getD 49 undef) = .pointer (some ⟨r, 3, none⟩) := depO (V := (VK10 a1 r g10 t m cc B E Z (u0.heap.size) cs Bq oq hc (ncells ((zipC (coverN B E) hs).take t)) x y)) hdep 14 49 (by kernel_rfl) (by kernel_rfl)
          clear hdep hsame hi hlate hfr hkeep
          have hst := er_cellAt ((hkeep8 15 (.inl rfl) r RLT.out (ownBG_one _ _ _ _)).trans XR.out) 3 _ rfl
          have hfr2 : u.frozen? ⟨r, 3, none⟩ = false := by simp [World.frozen?, ((hkeep8 15 (.inl rfl) r RLT.out (ownBG_one _ _ _ _)).trans XR.out)]
          obtain ⟨a9, c9, ev, _, _, _⟩ := own_shape e47.1.1
          rw [ev] at e47
          have hob : own r = some 15 := (hsn.owns r RLT.out).trans (ownBG_one _ _ _ _)
          have HQ : ∀ {v}, GrownW own u 12 Z 105 34 v (t + 1) ((ncells ((zipC (coverN B E) hs).take t)) ++ (ncell (x.1, x.2, y)).toList) (.slice a1 t cs) (u0.heap.size) → GrownW own u 12 Z 105 34 v (t + 1) ((ncells ((zipC (coverN B E) hs).take t)) ++ (ncell (x.1, x.2, y)).toList) (.slice a1 t cs) (u0.heap.size) := fun h => h
          exact .inl ⟨wanted_none rfl, showsO_store_cell hsn hkeep8 rfl r 3 #[.bool true, .int .u64 (B : Int), .int .u64 (E : Int), .slice a1 t cs] 65 XR.out (ownBG_one _ _ _ _) (.slice a9 (t + 1) c9) (by simp only [execOp, Act.eval]; go_simp) (fun h => ⟨_, h, grownW_setCellG (HQ e47) r 3 _ hob (by decide)⟩)⟩
        | n + 16, hi => exact absurd hi (by simp)
      intro fr u2 own hsame hsn hall
      have q35 : fr.tmps.getD 35 undef = .pointer (some ⟨r, 0, none⟩) := finO (V := (VK10 a1 r g10 t m cc B E Z (u0.heap.size) cs Bq oq hc (ncells ((zipC (coverN B E) hs).take t)) x y)) hall 0 35 rfl
      have q36 : fr.tmps.getD 36 undef = .pointer (some ⟨r, 0, none⟩) := finO (V := (VK10 a1 r g10 t m cc B E Z (u0.heap.size) cs Bq oq hc (ncells ((zipC (coverN B E) hs).take t)) x y)) hall 1 36 rfl
      have q37 : fr.tmps.getD 37 undef = .pointer (some ⟨r, 0, none⟩) := finO (V := (VK10 a1 r g10 t m cc B E Z (u0.heap.size) cs Bq oq hc (ncells ((zipC (coverN B E) hs).take t)) x y)) hall 2 37 rfl
      have q38 : fr.tmps.getD 38 undef = .pointer (some ⟨r, 3, none⟩) := finO (V := (VK10 a1 r g10 t m cc B E Z (u0.heap.size) cs Bq oq hc (ncells ((zipC (coverN B E) hs).take t)) x y)) hall 3 38 rfl
      have q39 : fr.tmps.getD 39 undef = .slice a1 t cs := finO (V := (VK10 a1 r g10 t m cc B E Z (u0.heap.size) cs Bq oq hc (ncells ((zipC (coverN B E) hs).take t)) x y)) hall 4 39 rfl
      have q40 : fr.tmps.getD 40 undef = .agg #[.int .u8 (x.1 : Int), .int .u64 (x.2 : Int)] := finO (V := (VK10 a1 r g10 t m cc B E Z (u0.heap.size) cs Bq oq hc (ncells ((zipC (coverN B E) hs).take t)) x y)) hall 5 40 rfl
      have q41 : fr.tmps.getD 41 undef = .slice (some ⟨Bq, oq, none⟩) m hc := finO (V := (VK10 a1 r g10 t m cc B E Z (u0.heap.size) cs Bq oq hc (ncells ((zipC (coverN B E) hs).take t)) x y)) hall 6 41 rfl
      have q42 : fr.tmps.getD 42 undef = .int .i64 (t : Int) := finO (V := (VK10 a1 r g10 t m cc B E Z (u0.heap.size) cs Bq oq hc (ncells ((zipC (coverN B E) hs).take t)) x y)) hall 7 42 rfl
      have q43 : fr.tmps.getD 43 undef = .pointer (some ⟨Bq, oq + t * 32, none⟩) := finO (V := (VK10 a1 r g10 t m cc B E Z (u0.heap.size) cs Bq oq hc (ncells ((zipC (coverN B E) hs).take t)) x y)) hall 8 43 rfl
      have q44 : fr.tmps.getD 44 undef = .agg (ocells (y)) := finO (V := (VK10 a1 r g10 t m cc B E Z (u0.heap.size) cs Bq oq hc (ncells ((zipC (coverN B E) hs).take t)) x y)) hall 9 44 rfl
      have q45 : fr.tmps.getD 45 undef = .agg (ncell (x.1, x.2, y)) := finO (V := (VK10 a1 r g10 t m cc B E Z (u0.heap.size) cs Bq oq hc (ncells ((zipC (coverN B E) hs).take t)) x y)) hall 10 45 rfl
      obtain ⟨g46, q46, o46, m46⟩ : BuiltV own u2 (fr.tmps.getD 46 undef) 1 105 (ncell (x.1, x.2, y)) := finO (V := (VK10 a1 r g10 t m cc B E Z (u0.heap.size) cs Bq oq hc (ncells ((zipC (coverN B E) hs).take t)) x y)) hall 11 46 rfl
      have m47 := finO (V := (VK10 a1 r g10 t m cc B E Z (u0.heap.size) cs Bq oq hc (ncells ((zipC (coverN B E) hs).take t)) x y)) hall 12 47 rfl
      obtain ⟨r47, q47⟩ : ∃ r, fr.tmps.getD 47 undef = r := ⟨_, rfl⟩
      rw [q47] at m47
      have q48 : fr.tmps.getD 48 undef = .pointer (some ⟨r, 0, none⟩) := finO (V := (VK10 a1 r g10 t m cc B E Z (u0.heap.size) cs Bq oq hc (ncells ((zipC (coverN B E) hs).take t)) x y)) hall 13 48 rfl
      have q49 : fr.tmps.getD 49 undef = .pointer (some ⟨r, 3, none⟩) := finO (V := (VK10 a1 r g10 t m cc B E Z (u0.heap.size) cs Bq oq hc (ncells ((zipC (coverN B E) hs).take t)) x y)) hall 14 49 rfl
      obtain ⟨s2, ⟨ob, hbb⟩, ⟨gw, gf⟩, gz⟩ := finN (V := (VK10 a1 r g10 t m cc B E Z (u0.heap.size) cs Bq oq hc (ncells ((zipC (coverN B E) hs).take t)) x y)) hall 15 rfl
      obtain rfl := frame_eq hsame [(35, .pointer (some ⟨r, 0, none⟩)), (36, .pointer (some ⟨r, 0, none⟩)), (37, .pointer (some ⟨r, 0, none⟩)), (38, .pointer (some ⟨r, 3, none⟩)), (39, .slice a1 t cs), (40, .agg #[.int .u8 (x.1 : Int), .int .u64 (x.2 : Int)]), (41, .slice (some ⟨Bq, oq, none⟩) m hc), (42, .int .i64 (t : Int)), (43, .pointer (some ⟨Bq, oq + t * 32, none⟩)), (44, .agg (ocells (y))), (45, .agg (ncell (x.1, x.2, y))), (46, .slice (some ⟨g46, 0, none⟩) 1 1), (47, r47), (48, .pointer (some ⟨r, 0, none⟩)), (49, .pointer (some ⟨r, 3, none⟩))] (by kernel_rfl) ⟨q35, q36, q37, q38, q39, q40, q41, q42, q43, q44, q45, q46, q47, q48, q49, trivial⟩
      clear hall hsame q35 q36 q37 q38 q39 q40 q41 q42 q43 q44 q45 q46 q47 q48 q49
      simp only [List.foldl, List.setIfInBounds_toArray, List.set_cons_succ, List.set_cons_zero]
      have kbr := hsn.keepBG
      have B2 := Bx.mk (B1.out.trans (kbr.below (B := W6.heap.size) B1.out.size (fun k hk => GEZ.out k hk)))
      have R2 := Bx.mk (show RaP Z u2 r B E ((zipC (coverN B E) hs).take (t + 1)) s2 from ⟨hbb, RZ.out, by
        have e : ((zipC (coverN B E) hs).take (t + 1)).length = t + 1 := by rw [HT.out, List.length_append, TK.out]; rfl
        rw [e, HT.out, ← ncells_push]
        exact gw, fun x hx => G32.out x (List.mem_of_mem_take hx)⟩)
      have tl := TL.out
      have lm := ML.out
      clear hsn m47 kbr ob hbb gw gf gz
      go_wp2_with fail
      go_roundw
      case rel => exact ⟨t + 1, TL.out, by go_num, s2, R2.out, B2.out⟩
      case measure => have := TL.out; simp [intOf]; omega
    · obtain rfl : t = m := by omega
      have f1 : ¬ (t : Int) < (t : Int) := by omega
      have hrw := RW.out
      rw [List.take_of_length_le (by rw [zipC_len CL.out, ← HL.out]; exact Nat.le_refl _)] at hrw
      have R4 := Bx.mk hrw
      clear hrw ht hlt
      go_wp2_with fail
      go_ret2
      exact ⟨r, rfl, ⟨s1, R4.out.mono (by rw [HZ.out]; exact K6.out.size)⟩, K6.out.trans (BW.out.mono K6.out.size)⟩
end Go.Proofs.YtgbafjmklefoiaaGreatDoor
