/- cartularylaw18.climbs. -/
import Derived.Test.YtmlpldkgennmkaaDoorBnb
namespace Go.Proofs.YtmlpldkgennmkaaDoor
set_option maxRecDepth 100000
open Go.RowKit
theorem heap_setRow_ne (w : World) (g k : Nat) (cs : Array Value) (h : k ≠ g) : (w.setRow g cs).heap[k]? = w.heap[k]? := heap_setRow_other w g k cs h
def VCl6 (Ba off cap l t _n8 : Nat) (c p : List UInt8) (oi : Nat) (v : Value) (own : Nat → Option Nat) (w : World) : Prop :=
  match oi with
  | 0 => v = .agg (ocells (c))
  | 1 => v = .slice (some ⟨Ba, off, none⟩) l cap
  | 2 => v = .int .i64 (t : Int)
  | 3 => v = .pointer (some ⟨Ba, off + t * 32, none⟩)
  | 4 => v = .agg (ocells (p))
  | 5 => v = .agg (ocells c ++ ocells p)
  | 6 => AllocV own w v 7 55 64
  | 7 => StoredV own w 7 55 (ocells c ++ ocells p)
  | _ => True
def VCl6mk : Nat → Option Nat := fun j => match j with | 7 => some 6 | _ => none
theorem VCl6_mono (Ba off cap l t n8 : Nat) (c p : List UInt8) (oi oj : Nat) (v : Value) (own : Nat → Option Nat) (w : World) (own' : Nat → Option Nat) (w' : World) (hij : oi ≠ oj)  (h : VCl6 Ba off cap l t n8 c p oj v own w) (r : Rel VCl6mk oi own w own' w') : VCl6 Ba off cap l t n8 c p oj v own' w' := by
  unfold VCl6 at h ⊢
  split at h
  · exact h
  · exact h
  · exact h
  · exact h
  · exact h
  · exact h
  · exact h.stable r rfl hij
  · exact h.stable r hij
  · trivial

def VCl8 (Ba off cap l t _n8 g10 : Nat) (c p : List UInt8) (oi : Nat) (v : Value) (own : Nat → Option Nat) (w : World) : Prop :=
  match oi with
  | 0 => v = .slice (some ⟨Ba, off, none⟩) l cap
  | 1 => v = .int .i64 (t : Int)
  | 2 => v = .pointer (some ⟨Ba, off + t * 32, none⟩)
  | 3 => v = .agg (ocells (p))
  | 4 => v = .agg (ocells (c))
  | 5 => v = .agg (ocells p ++ ocells c)
  | 6 => OutV own w (g10) 6 55 (ocells p ++ ocells c)
  | _ => True
def VCl8mk : Nat → Option Nat := fun _ => none
theorem VCl8_mono (Ba off cap l t n8 g10 : Nat) (c p : List UInt8) (oi oj : Nat) (v : Value) (own : Nat → Option Nat) (w : World) (own' : Nat → Option Nat) (w' : World) (hij : oi ≠ oj)  (h : VCl8 Ba off cap l t n8 g10 c p oj v own w) (r : Rel VCl8mk oi own w own' w') : VCl8 Ba off cap l t n8 g10 c p oj v own' w' := by
  unfold VCl8 at h ⊢
  split at h
  · exact h
  · exact h
  · exact h
  · exact h
  · exact h
  · exact h
  · exact h.stable r hij
  · trivial

theorem pair_src (w : World) (X : Array Value) (n : Nat) (hn : n = w.heap.size) :
    ∀ ad, some (⟨n, 0, none⟩ : Addr) = some ad → ∀ j x, X.toList[j]? = some x → (w.alloc (.cells X 55)).cell? (ad.add j) = some x := by
  rintro ad had j x hj
  cases had
  subst hn
  have ea : (⟨w.heap.size, 0, none⟩ : Addr).add j = ⟨w.heap.size, j, none⟩ := by unfold Addr.add; by_cases h : j = 0 <;> simp [h]
  rw [ea]
  exact er_cellAt (heap_alloc_new _ _) j x (by simpa using hj)
theorem pone_mem (x y : List UInt8) : ∀ u ∈ (ocells x ++ ocells y).toList, u.oneCell' = true := fun u hu => Array.all_eq_true_iff_forall_mem.1 (pone x y) u (by simpa using hu)
set_option maxHeartbeats 6400000 in
theorem climbs_any (w : World) (x : List UInt8) (hx : x.length = 32) (ad : Option Addr) (n cap : Nat) (ps : List (List UInt8)) (hH : Hss w (.slice ad n cap) ps) (dv : Value) (ds : List Bool) (base0 : Nat) (hD : w.ownsRow base0 4 1 dv ds.length (lcells ds)) (hl : ds.length = ps.length) (hm : ps.length ≤ 1048576) (hT : TabS w) :
    Calls Tryd.prog 20 #[hv x, .slice ad n cap, dv] w fun e w' => ∃ v, e = .returned v ∧ w'.ownsRow w.heap.size 55 64 v ds.length (pcs (climbsP nd x ds ps)) ∧ Below w.heap.size w w' := by
  have x0 := HashAt.new w x hx
  have kb := er_al (Below.refl w.heap.size w) (.cells (ocells x) 24)
  obtain ⟨_, c', e1, hc1, hc2⟩ := hH.len
  have hcc : cap = c' := by cases e1; rfl
  subst hcc
  have hn : n = ps.length := by cases e1; rfl
  subst hn
  obtain ⟨ad2, cd, rfl, d1, d2, d3⟩ := own_shape hD
  obtain ⟨i0, hi0, hz0, hz1, hz2⟩ := info_parts infoPz
  have RI := Bx.mk (And.intro hi0 (And.intro hz0 (And.intro hz1 hz2)))
  have XL := Bx.mk hx; have HHS := Bx.mk hH; have HM := Bx.mk hm; have HT := Bx.mk hT; have HD := Bx.mk hD; have HC := Bx.mk (And.intro hc1 hc2)
  clear hi0 hz0 hz1 hz2 hx hH hT hD d1 d2 d3 e1 hc1 hc2
  obtain ⟨l, hll⟩ : ∃ l, l = ps.length := ⟨_, rfl⟩
  rw [← hll] at HHS hl HM ⊢
  rw [hl] at HD ⊢
  have HLP := Bx.mk hll; have HLD := Bx.mk hl
  clear hll hl hm
  unfold hv
  go_enter Tryd.func20, Tryd.ntmps20
  go_upto_region 1 with (fail)
  change Code.wp _ _ _ _ (w.alloc (.cells (ocells x) 24))
  generalize w.alloc (.cells (ocells x) 24) = W at x0 kb ⊢
  obtain ⟨N, hN⟩ : ∃ N, N = w.heap.size := ⟨_, rfl⟩
  rw [← hN] at x0 ⊢
  have hNW : N < W.heap.size := (Array.getElem?_eq_some_iff.1 x0.1).1
  have X0 := Bx.mk x0; have K0 := Bx.mk kb
  clear x0 kb
  go_upto_region 3 with (first
    | (guard_target =~ wpList _ _ _ (⟨some 11, _, _, _, _, _⟩ :: _) _ _; refine wpList_load_row rfl 24 (.tmp 3) rfl N rfl _ _ _ _ X0.out.1 underH rfl (hszL XL.out) ?_)
    | (guard_target =~ wpList _ _ _ (⟨none, _, _, _, _, _⟩ :: _) _ _; refine wpList_store_row rfl 24 (.tmp 8) (.tmp 11) rfl W.heap.size (ocells x) rfl rfl _ zeros32 (heap_alloc_new _ _) (hszL XL.out) (hsoL XL.out) (ocells_one _) ?_; rw [setRow_alloc_new _ _ _ _ _ rfl]))
  have x8 := heap_alloc_new W (.cells (ocells x) 24)
  have b8 := er_al (Below.refl W.heap.size W) (.cells (ocells x) 24)
  have s8 : (W.alloc (.cells (ocells x) 24)).heap.size = W.heap.size + 1 := by simp
  generalize W.alloc (.cells (ocells x) 24) = W2 at x8 b8 s8 ⊢
  obtain ⟨n8, hn8⟩ : ∃ n, n = W.heap.size := ⟨_, rfl⟩
  rw [← hn8] at x8 s8 hNW ⊢
  have N8 := Bx.mk (show n8 < W2.heap.size ∧ w.heap.size ≤ n8 by omega)
  have NW := Bx.mk (show w.heap.size ≤ W2.heap.size by omega)
  have X8 := Bx.mk x8; have K2 := Bx.mk (K0.out.trans (b8.mono K0.out.size))
  clear x8 b8 s8 hn8 hNW hN
  go_wp2_with fail
  go_loopw [7, 9, 10] (fun ov iv _ wr => ∃ t : Nat, t ≤ l ∧ iv = .int .i64 (t : Int) ∧ wr.ownsRow W2.heap.size 55 64 ov t (pcs (climbsP nd x (ds.take t) (ps.take t))) ∧ wr.heap[n8]? = some (.cells (ocells (climb nd x (ds.take t) (ps.take t))) 24 (0, 0)) ∧ W2.heap.size ≤ wr.heap.size ∧ Below w.heap.size w wr) (fun _ iv _ _ => l - (intOf iv).toNat)
  case atStart => exact ⟨0, Nat.zero_le _, rfl, ⟨rfl, .inl ⟨rfl, rfl⟩⟩, X8.out, Nat.le_refl _, K2.out⟩
  case round =>
    obtain ⟨t, ht, rfl, ho, h8, hsz, hb⟩ := hrel
    obtain ⟨a7, c7, rfl, q1, q2, q3⟩ := own_shape ho
    have HO := Bx.mk ho; have H8 := Bx.mk h8; have BW := Bx.mk hb; have SW := Bx.mk hsz
    clear q1 q2 q3 ho h8 hb hsz X8
    by_cases hlt : t < l
    · have htp : t < ps.length := by rw [← HLP.out]; exact hlt
      have htd : t < ds.length := by rw [HLD.out]; exact hlt
      obtain ⟨hq0, _, _, Ba, off, rfl, hBl, hr, hpl⟩ := HHS.out.at t htp
      clear hq0
      obtain ⟨gd, cd', e, _, hgd, hcell⟩ := bools_at HD.out t htd
      cases e
      have sd := List.take_succ_eq_append_getElem htd
      have sp := List.take_succ_eq_append_getElem htp
      have hsc : climb nd x (ds.take (t + 1)) (ps.take (t + 1)) = climb1 nd ds[t] (climb nd x (ds.take t) (ps.take t)) ps[t] := by
        rw [sd, sp, climb_snoc nd _ _ (by rw [List.length_take, List.length_take]; omega)]
      have hsp : climbsP nd x (ds.take (t + 1)) (ps.take (t + 1)) = climbsP nd x (ds.take t) (ps.take t) ++ [if ds[t] then (ps[t], climb nd x (ds.take t) (ps.take t)) else (climb nd x (ds.take t) (ps.take t), ps[t])] := by
        rw [sd, sp, climbsP_snoc nd _ _ _ _ _ (by rw [List.length_take, List.length_take]; omega)]
      have hcl := climb_length XL.out (ds.take t) (ps.take t)
      generalize climb nd x (ds.take t) (ps.take t) = c at H8 hsc hsp hcl
      generalize climbsP nd x (ds.take t) (ps.take t) = cl at HO hsp
      generalize ps[t] = p at hr hpl hsc hsp
      have hbc : ∀ u, Below w.heap.size w u → u.cell? ⟨gd, t, none⟩ = some (.bool ds[t]) := fun u hu => (hu.cell (p := ⟨gd, t, none⟩) hgd).trans hcell
      generalize ds[t] = d at hsc hsp hbc
      have HSC := Bx.mk hsc; have HSP := Bx.mk hsp; have CL := Bx.mk hcl; have PL := Bx.mk hpl; have HLT := Bx.mk hlt; have HBC := Bx.mk hbc
      have HRO := Bx.mk (fun u (hu : Below w.heap.size w u) => rangeAt_below hr hBl hu)
      have LT := Bx.mk (show t + 1 ≤ 1048576 by have := HM.out; omega)
      clear hsc hsp hcl hpl hbc hr hBl hgd hcell sd sp htp htd ht
      go_upto_region 6 with (fail)
      refine wp_region_own4 (n := 50) VCl6mk (fun _ => none) (VCl6 Ba off cap l t n8 c p) (by kernel_rfl) (by kernel_rfl) rfl (fun _ _ => rfl) (fun _ _ _ _ h => by cases h) ?_ ?_ ?_
      · exact fun oi oj v own w own' w' hij _ h r => VCl6_mono Ba off cap l t n8 c p oi oj v own w own' w' hij h r
      · intro oi o hi f u own hsame hsn hfr hlate hkeep hdep
        have hb6 := hsn.below (B := wr.heap.size) (fun _ _ => rfl) (Nat.le_refl _)
        match oi, hi with
        | 0, hi =>
          cases (show some _ = some o from hi)
          have e8 : f.tmps.getD 8 undef = .pointer (some ⟨n8, 0, none⟩) := hsame.slot 8 (fun i o h => invB2_not 8 (by kernel_rfl) h)
          clear hdep hsame hi hlate hfr hkeep
          exact .inl ⟨wanted_none rfl, showsO_row hsn rfl 24 (.tmp 8) rfl n8 e8 (ocells c) ((hb6.block n8 (Array.getElem?_eq_some_iff.1 H8.out).1).trans H8.out) underH rfl (hszL CL.out) rfl⟩
        | 1, hi =>
          cases (show some _ = some o from hi)
          have e1 : f.tmps.getD 1 undef = .slice (some ⟨Ba, off, none⟩) l cap := hsame.slot 1 (fun i o h => invB2_not 1 (by kernel_rfl) h)
          clear hdep hsame hi hlate hfr hkeep
          exact .inl ⟨wanted_none rfl, showsO_move hsn rfl _ rfl e1⟩
        | 2, hi =>
          cases (show some _ = some o from hi)
          have e9 : f.tmps.getD 9 undef = .int .i64 (t : Int) := hsame.slot 9 (fun i o h => invB2_not 9 (by kernel_rfl) h)
          clear hdep hsame hi hlate hfr hkeep
          exact .inl ⟨wanted_none rfl, showsO_move hsn rfl _ rfl e9⟩
        | 3, hi =>
          cases (show some _ = some o from hi)
          have e25 : (f.tmps.getD 25 undef) = .slice (some ⟨Ba, off, none⟩) l cap := depO (V := (VCl6 Ba off cap l t n8 c p)) hdep 1 25 (by kernel_rfl) (by kernel_rfl)
          have e26 : (f.tmps.getD 26 undef) = .int .i64 (t : Int) := depO (V := (VCl6 Ba off cap l t n8 c p)) hdep 2 26 (by kernel_rfl) (by kernel_rfl)
          clear hdep hsame hi hlate hfr hkeep
          have hlt := HLT.out
          exact .inl ⟨wanted_none rfl, showsO_pure hsn rfl (.pointer (some ⟨Ba, off + t * 32, none⟩)) (by simp only [execOp, Act.eval]; go_simp) rfl⟩
        | 4, hi =>
          cases (show some _ = some o from hi)
          have e27 : (f.tmps.getD 27 undef) = .pointer (some ⟨Ba, off + t * 32, none⟩) := depO (V := (VCl6 Ba off cap l t n8 c p)) hdep 3 27 (by kernel_rfl) (by kernel_rfl)
          clear hdep hsame hi hlate hfr hkeep
          exact .inl ⟨wanted_none rfl, showsO_mid hsn rfl 24 (.tmp 27) rfl Ba (off + t * 32) e27 (bcells p) (HRO.out u (BW.out.trans (hb6.mono BW.out.size))) underH rfl (hszB' PL.out) rfl⟩
        | 5, hi =>
          cases (show some _ = some o from hi)
          have e24 : (f.tmps.getD 24 undef) = .agg (ocells (c)) := depO (V := (VCl6 Ba off cap l t n8 c p)) hdep 0 24 (by kernel_rfl) (by kernel_rfl)
          have e28 : (f.tmps.getD 28 undef) = .agg (ocells (p)) := depO (V := (VCl6 Ba off cap l t n8 c p)) hdep 4 28 (by kernel_rfl) (by kernel_rfl)
          clear hdep hsame hi hlate hfr hkeep
          exact .inl ⟨wanted_none rfl, showsO_build hsn rfl 55 #[(0, .tmp 24), (1, .tmp 28)] rfl (ocells c ++ ocells p) (by simp only [List.map_toArray, List.map_cons, List.map_nil, Act.eval]; rw [e24, e28]; exact built_pair c p CL.out PL.out) rfl⟩
        | 6, hi =>
          cases (show some _ = some o from hi)
          clear hdep hsame hi hlate hkeep
          exact .inl ⟨wanted_none rfl, showsO_alloc hsn hfr rfl zerosP 55 7 rfl (by simp only [execOp, Act.eval]; go_simp; rfl) (fun h => h)⟩
        | 7, hi =>
          cases (show some _ = some o from hi)
          have e10 : AllocV own u (f.tmps.getD 10 undef) 7 55 64 := depO (V := (VCl6 Ba off cap l t n8 c p)) hdep 6 10 (by kernel_rfl) (by kernel_rfl)
          have e29 : (f.tmps.getD 29 undef) = .agg (ocells c ++ ocells p) := depO (V := (VCl6 Ba off cap l t n8 c p)) hdep 5 29 (by kernel_rfl) (by kernel_rfl)
          clear hdep hsame hi hlate hfr hkeep
          exact .inl ⟨wanted_none rfl, showsO_store_alloc hsn rfl 55 (.tmp 10) (.tmp 29) rfl e10 (ocells c ++ ocells p) e29 (pszB CL.out PL.out) (psz CL.out PL.out).symm (pone _ _) (fun _ h => h)⟩
        | n + 8, hi => exact absurd hi (by simp)
      · intro f u own hsame hsn hall
        have hb6 := hsn.below (B := wr.heap.size) (fun _ _ => rfl) (Nat.le_refl _)
        have q24 : f.tmps.getD 24 undef = .agg (ocells (c)) := finO (V := (VCl6 Ba off cap l t n8 c p)) hall 0 24 rfl
        have q25 : f.tmps.getD 25 undef = .slice (some ⟨Ba, off, none⟩) l cap := finO (V := (VCl6 Ba off cap l t n8 c p)) hall 1 25 rfl
        have q26 : f.tmps.getD 26 undef = .int .i64 (t : Int) := finO (V := (VCl6 Ba off cap l t n8 c p)) hall 2 26 rfl
        have q27 : f.tmps.getD 27 undef = .pointer (some ⟨Ba, off + t * 32, none⟩) := finO (V := (VCl6 Ba off cap l t n8 c p)) hall 3 27 rfl
        have q28 : f.tmps.getD 28 undef = .agg (ocells (p)) := finO (V := (VCl6 Ba off cap l t n8 c p)) hall 4 28 rfl
        have q29 : f.tmps.getD 29 undef = .agg (ocells c ++ ocells p) := finO (V := (VCl6 Ba off cap l t n8 c p)) hall 5 29 rfl
        obtain ⟨g10, q10, o10, m10⟩ := AllocV.stored (finO (V := (VCl6 Ba off cap l t n8 c p)) hall 6 10 rfl) (finN (V := (VCl6 Ba off cap l t n8 c p)) hall 7 rfl)
        obtain rfl := frame_eq hsame [(24, .agg (ocells (c))), (25, .slice (some ⟨Ba, off, none⟩) l cap), (26, .int .i64 (t : Int)), (27, .pointer (some ⟨Ba, off + t * 32, none⟩)), (28, .agg (ocells (p))), (29, .agg (ocells c ++ ocells p)), (10, .pointer (some ⟨g10, 0, none⟩))] (by kernel_rfl) ⟨q24, q25, q26, q27, q28, q29, q10, trivial⟩
        clear hall hsame q24 q25 q26 q27 q28 q29 q10
        simp only [List.foldl, List.setIfInBounds_toArray, List.set_cons_succ, List.set_cons_zero]
        have hge := hsn.ge o10 (fun k _ => by simp)
        have Z10 := Bx.mk m10; have Z8 := Bx.mk ((hb6.block n8 (Array.getElem?_eq_some_iff.1 H8.out).1).trans H8.out); have BZ := Bx.mk (BW.out.trans (hb6.mono BW.out.size))
        have OZ := Bx.mk (own_keep HO.out (Keep.of_below hb6 (fun _ => False)) (fun _ _ h => h))
        have NG2 := Bx.mk (show wr.heap.size ≤ g10 ∧ w.heap.size ≤ g10 from ⟨hge, Nat.le_trans BW.out.size hge⟩)
        have NG := Bx.mk (show n8 ≠ g10 by have := N8.out; have := SW.out; omega)
        have SZ := Bx.mk (Nat.le_trans SW.out hb6.size)
        clear hb6 hsn o10 m10 hge
        obtain ⟨wz, hwz⟩ : ∃ wz, wz = u := ⟨_, rfl⟩
        rw [← hwz] at BZ Z10 Z8 OZ SZ ⊢
        clear hwz
        have hbc := HBC.out wz BZ.out
        cases d
        · have Y10 := Z10; have Y8 := Z8; have BY := BZ; have OY := OZ; have SY := SZ
          go_upto_region 9 with (fail)
          go_upto_region 10 with (first
            | (guard_target =~ wpList _ _ _ (⟨some 41, _, _, _, _, _⟩ :: _) _ _; refine wpList_load_row rfl 55 (.tmp 10) rfl g10 rfl _ _ _ _ Y10.out underP rfl (pszB CL.out PL.out) ?_)
            | (guard_target =~ wpList _ _ _ (⟨some 42, _, _, _, _, _⟩ :: _) _ _; refine wpList_bs_pair rfl (.tmp 41) rfl (ocells c ++ ocells p) (psz CL.out PL.out) rfl ?_)
            | (guard_target =~ wpList _ _ _ (⟨some 43, _, _, _, _, _⟩ :: _) _ _; refine wpList_append_src rfl (.tmp 40) (.tmp 42) 51 rfl W2.heap.size 55 i0 (.agg zerosP) 64 64 underPs RI.out.1 RI.out.2.1 RI.out.2.2.1 RI.out.2.2.2 rfl (by decide) (.slice a7 t c7) t (pcs cl) rfl (row_push OY.out _) (some ⟨_, 0, none⟩) 1 1 (ocells c ++ ocells p).toList rfl (fun h => by cases h) (by have := psz CL.out PL.out; simpa using this) (pair_src _ _ _ rfl) (pone_mem _ _) (by have := LT.out; unfold maxLen; omega) (by have := LT.out; omega) (by have := SY.out; simp; omega) ?_; intro v9 w9 hown' hgrow _; have O9 := Bx.mk hown'; have G9 := Bx.mk hgrow; clear hown' hgrow))
          have hno : ∀ k, (Value.slice a7 t c7).ownBlock = some k → W2.heap.size ≤ k ∧ k < wr.heap.size := fun k hk => ⟨ownsRow_fresh HO.out k hk, ownsRow_lt HO.out k hk⟩
          have g9 := Keep.of_grown G9.out
          have z10 := (g9.block g10 (by simp; exact Nat.lt_succ_of_lt (Array.getElem?_eq_some_iff.1 Y10.out).1) (fun e => by have := hno _ e; have := NG2.out; omega)).trans ((Below.heap_alloc _ _ _ (Array.getElem?_eq_some_iff.1 Y10.out).1).trans Y10.out)
          have z8 := (g9.block n8 (by simp; exact Nat.lt_succ_of_lt (Array.getElem?_eq_some_iff.1 Y8.out).1) (fun e => by have := hno _ e; have := N8.out; omega)).trans ((Below.heap_alloc _ _ _ (Array.getElem?_eq_some_iff.1 Y8.out).1).trans Y8.out)
          have b9 : Below w.heap.size w w9 := (BY.out.alloc BY.out.size _).grown G9.out (Nat.le_trans BY.out.size (by simp)) (fun k hk => by have := hno k hk; have := NW.out; omega)
          have s9 : W2.heap.size ≤ w9.heap.size := Nat.le_trans SY.out (Nat.le_trans (by simp) g9.size)
          have o9 := O9.out
          rw [pcs_push] at o9
          have tw := Two.new z10 CL.out PL.out
          have cn := node_any w9 c p CL.out PL.out (HT.out.below b9)
          rw [hv_agg, hv_agg, hv_agg] at cn
          have CN := Bx.mk cn; have T1 := Bx.mk tw.one; have T2 := Bx.mk tw.two; have P9 := Bx.mk o9; have B9 := Bx.mk b9; have E8 := Bx.mk z8; have S9 := Bx.mk s9
          clear hno g9 z10 z8 b9 o9 tw cn s9 O9 G9
          go_wp2_with (first
            | (guard_target =~ wpList _ _ _ (⟨some 45, _, _, _, _, _⟩ :: _) _ _; refine wpList_load_mid rfl 24 (.tmp 44) rfl g10 0 rfl (bcells c) _ T1.out underH rfl (hszB' CL.out) ?_)
            | (guard_target =~ wpList _ _ _ (⟨some 47, _, _, _, _, _⟩ :: _) _ _; refine wpList_load_mid rfl 24 (.tmp 46) rfl g10 32 rfl (bcells p) _ T2.out underH rfl (hszB' PL.out) ?_))
          refine CN.out.mono ?_
          rintro e wa ⟨rfl, hb⟩
          have ea := (hb.block _ (Array.getElem?_eq_some_iff.1 E8.out).1).trans E8.out
          have oa := own_keep P9.out (Keep.of_below hb (fun _ => False)) (fun _ _ h => h)
          have ob := own_keep oa (Keep.setRow wa n8 (ocells (nd c p))) (fun k hk e => by have := ownsRow_fresh oa k hk; have := N8.out; omega)
          have ba := below_setRow (B9.out.trans (hb.mono B9.out.size)) (show w.heap.size ≤ n8 by have := N8.out; omega) (ocells (nd c p))
          have sa : W2.heap.size ≤ (wa.setRow n8 (ocells (nd c p))).heap.size := Nat.le_trans S9.out (Nat.le_trans hb.size (by simp))
          have EA := Bx.mk ea; have OB := Bx.mk ob; have BA := Bx.mk ba; have SA := Bx.mk sa
          clear hb ea oa ob ba sa
          have ltb := LT.out
          go_wp2_with (guard_target =~ wpList _ _ _ (⟨none, _, _, _, _, _⟩ :: _) _ _; refine wpList_store_row rfl 24 (.tmp 8) (.tmp 48) rfl n8 (ocells (nd c p)) rfl rfl _ _ EA.out (hszL (nd_length _ _)) (by rw [ocells_size, ocells_size, CL.out, nd_length]) (ocells_one _) ?_)
          go_roundw
          case rel => exact ⟨t + 1, HLT.out, by go_num, by rw [HSP.out]; exact OB.out, by rw [HSC.out]; exact setRow_heap _ _ _ _ _ _ EA.out, SA.out, BA.out⟩
          case measure => have := HLT.out; simp [intOf]; omega
        · go_upto_region 8 with (fail)
          refine wp_region_own4 (n := 50) VCl8mk (ownTwo g10 g10 6 6) (VCl8 Ba off cap l t n8 g10 c p) (by kernel_rfl) (by kernel_rfl) rfl (fun k hk => ownTwo_none (by have := (Array.getElem?_eq_some_iff.1 Z10.out).1; omega) (by have := (Array.getElem?_eq_some_iff.1 Z10.out).1; omega)) (fun j i hj _ => by cases hj) ?_ ?_ ?_
          · exact fun oi oj v own w own' w' hij _ h r => VCl8_mono Ba off cap l t n8 g10 c p oi oj v own w own' w' hij h r
          · intro oi o hi f u own hsame hsn hfr hlate hkeep hdep
            have hk6 := hsn.keepTwo
            match oi, hi with
            | 0, hi =>
              cases (show some _ = some o from hi)
              have e1 : f.tmps.getD 1 undef = .slice (some ⟨Ba, off, none⟩) l cap := hsame.slot 1 (fun i o h => invB2_not 1 (by kernel_rfl) h)
              clear hdep hsame hi hlate hfr hkeep
              exact .inl ⟨wanted_none rfl, showsO_move hsn rfl _ rfl e1⟩
            | 1, hi =>
              cases (show some _ = some o from hi)
              have e9 : f.tmps.getD 9 undef = .int .i64 (t : Int) := hsame.slot 9 (fun i o h => invB2_not 9 (by kernel_rfl) h)
              clear hdep hsame hi hlate hfr hkeep
              exact .inl ⟨wanted_none rfl, showsO_move hsn rfl _ rfl e9⟩
            | 2, hi =>
              cases (show some _ = some o from hi)
              have e34 : (f.tmps.getD 34 undef) = .slice (some ⟨Ba, off, none⟩) l cap := depO (V := (VCl8 Ba off cap l t n8 g10 c p)) hdep 0 34 (by kernel_rfl) (by kernel_rfl)
              have e35 : (f.tmps.getD 35 undef) = .int .i64 (t : Int) := depO (V := (VCl8 Ba off cap l t n8 g10 c p)) hdep 1 35 (by kernel_rfl) (by kernel_rfl)
              clear hdep hsame hi hlate hfr hkeep
              have hlt := HLT.out
              exact .inl ⟨wanted_none rfl, showsO_pure hsn rfl (.pointer (some ⟨Ba, off + t * 32, none⟩)) (by simp only [execOp, Act.eval]; go_simp) rfl⟩
            | 3, hi =>
              cases (show some _ = some o from hi)
              have e36 : (f.tmps.getD 36 undef) = .pointer (some ⟨Ba, off + t * 32, none⟩) := depO (V := (VCl8 Ba off cap l t n8 g10 c p)) hdep 2 36 (by kernel_rfl) (by kernel_rfl)
              clear hdep hsame hi hlate hfr hkeep
              exact .inl ⟨wanted_none rfl, showsO_mid hsn rfl 24 (.tmp 36) rfl Ba (off + t * 32) e36 (bcells p) (HRO.out u (BZ.out.trans (hk6.below BZ.out.size (fun k hk => by have := NG2.out; omega)))) underH rfl (hszB' PL.out) rfl⟩
            | 4, hi =>
              cases (show some _ = some o from hi)
              have e8 : f.tmps.getD 8 undef = .pointer (some ⟨n8, 0, none⟩) := hsame.slot 8 (fun i o h => invB2_not 8 (by kernel_rfl) h)
              clear hdep hsame hi hlate hfr hkeep
              exact .inl ⟨wanted_none rfl, showsO_row hsn rfl 24 (.tmp 8) rfl n8 e8 (ocells c) ((hk6.block n8 (Array.getElem?_eq_some_iff.1 Z8.out).1 (by have := NG.out; omega)).trans Z8.out) underH rfl (hszL CL.out) rfl⟩
            | 5, hi =>
              cases (show some _ = some o from hi)
              have e37 : (f.tmps.getD 37 undef) = .agg (ocells (p)) := depO (V := (VCl8 Ba off cap l t n8 g10 c p)) hdep 3 37 (by kernel_rfl) (by kernel_rfl)
              have e38 : (f.tmps.getD 38 undef) = .agg (ocells (c)) := depO (V := (VCl8 Ba off cap l t n8 g10 c p)) hdep 4 38 (by kernel_rfl) (by kernel_rfl)
              clear hdep hsame hi hlate hfr hkeep
              exact .inl ⟨wanted_none rfl, showsO_build hsn rfl 55 #[(0, .tmp 37), (1, .tmp 38)] rfl (ocells p ++ ocells c) (by simp only [List.map_toArray, List.map_cons, List.map_nil, Act.eval]; rw [e37, e38]; exact built_pair p c PL.out CL.out) rfl⟩
            | 6, hi =>
              cases (show some _ = some o from hi)
              have e10 : f.tmps.getD 10 undef = .pointer (some ⟨g10, 0, none⟩) := hsame.slot 10 (fun i o h => invB2_not 10 (by kernel_rfl) h)
              have e39 : (f.tmps.getD 39 undef) = .agg (ocells p ++ ocells c) := depO (V := (VCl8 Ba off cap l t n8 g10 c p)) hdep 5 39 (by kernel_rfl) (by kernel_rfl)
              clear hdep hsame hi hlate hfr hkeep
              exact .inl ⟨wanted_none rfl, showsO_store_out hsn rfl 55 (.tmp 10) (.tmp 39) rfl (g10) e10 Z10.out (ownTwo_one _ _ _ _) (ocells p ++ ocells c) e39 (pszB PL.out CL.out) (by rw [psz CL.out PL.out, psz PL.out CL.out]) (pone _ _) (fun _ h => h)⟩
            | n + 7, hi => exact absurd hi (by simp)
          · intro f u own hsame hsn hall
            have hk6 := hsn.keepTwo
            have q34 : f.tmps.getD 34 undef = .slice (some ⟨Ba, off, none⟩) l cap := finO (V := (VCl8 Ba off cap l t n8 g10 c p)) hall 0 34 rfl
            have q35 : f.tmps.getD 35 undef = .int .i64 (t : Int) := finO (V := (VCl8 Ba off cap l t n8 g10 c p)) hall 1 35 rfl
            have q36 : f.tmps.getD 36 undef = .pointer (some ⟨Ba, off + t * 32, none⟩) := finO (V := (VCl8 Ba off cap l t n8 g10 c p)) hall 2 36 rfl
            have q37 : f.tmps.getD 37 undef = .agg (ocells (p)) := finO (V := (VCl8 Ba off cap l t n8 g10 c p)) hall 3 37 rfl
            have q38 : f.tmps.getD 38 undef = .agg (ocells (c)) := finO (V := (VCl8 Ba off cap l t n8 g10 c p)) hall 4 38 rfl
            have q39 : f.tmps.getD 39 undef = .agg (ocells p ++ ocells c) := finO (V := (VCl8 Ba off cap l t n8 g10 c p)) hall 5 39 rfl
            obtain ⟨o_6, m_6⟩ : OutV own u (g10) 6 55 (ocells p ++ ocells c) := finN (V := (VCl8 Ba off cap l t n8 g10 c p)) hall 6 rfl
            obtain rfl := frame_eq hsame [(34, .slice (some ⟨Ba, off, none⟩) l cap), (35, .int .i64 (t : Int)), (36, .pointer (some ⟨Ba, off + t * 32, none⟩)), (37, .agg (ocells (p))), (38, .agg (ocells (c))), (39, .agg (ocells p ++ ocells c))] (by kernel_rfl) ⟨q34, q35, q36, q37, q38, q39, trivial⟩
            clear hall hsame q34 q35 q36 q37 q38 q39
            simp only [List.foldl, List.setIfInBounds_toArray, List.set_cons_succ, List.set_cons_zero]
            have Y10 := Bx.mk m_6; have Y8 := Bx.mk ((hk6.block n8 (Array.getElem?_eq_some_iff.1 Z8.out).1 (by have := NG.out; omega)).trans Z8.out)
            have BY := Bx.mk (BZ.out.trans (hk6.below BZ.out.size (fun k hk => by have := NG2.out; omega)))
            have OY := Bx.mk (own_keep OZ.out hk6 (fun k hk e => by have := ownsRow_lt HO.out k hk; have := NG2.out; omega))
            have SY := Bx.mk (Nat.le_trans SZ.out hk6.size)
            clear hk6 hsn o_6 m_6 hbc
            go_upto_region 10 with (first
              | (guard_target =~ wpList _ _ _ (⟨some 41, _, _, _, _, _⟩ :: _) _ _; refine wpList_load_row rfl 55 (.tmp 10) rfl g10 rfl _ _ _ _ Y10.out underP rfl (pszB PL.out CL.out) ?_)
              | (guard_target =~ wpList _ _ _ (⟨some 42, _, _, _, _, _⟩ :: _) _ _; refine wpList_bs_pair rfl (.tmp 41) rfl (ocells p ++ ocells c) (psz PL.out CL.out) rfl ?_)
              | (guard_target =~ wpList _ _ _ (⟨some 43, _, _, _, _, _⟩ :: _) _ _; refine wpList_append_src rfl (.tmp 40) (.tmp 42) 51 rfl W2.heap.size 55 i0 (.agg zerosP) 64 64 underPs RI.out.1 RI.out.2.1 RI.out.2.2.1 RI.out.2.2.2 rfl (by decide) (.slice a7 t c7) t (pcs cl) rfl (row_push OY.out _) (some ⟨_, 0, none⟩) 1 1 (ocells p ++ ocells c).toList rfl (fun h => by cases h) (by have := psz PL.out CL.out; simpa using this) (pair_src _ _ _ rfl) (pone_mem _ _) (by have := LT.out; unfold maxLen; omega) (by have := LT.out; omega) (by have := SY.out; simp; omega) ?_; intro v9 w9 hown' hgrow _; have O9 := Bx.mk hown'; have G9 := Bx.mk hgrow; clear hown' hgrow))
            have hno : ∀ k, (Value.slice a7 t c7).ownBlock = some k → W2.heap.size ≤ k ∧ k < wr.heap.size := fun k hk => ⟨ownsRow_fresh HO.out k hk, ownsRow_lt HO.out k hk⟩
            have g9 := Keep.of_grown G9.out
            have z10 := (g9.block g10 (by simp; exact Nat.lt_succ_of_lt (Array.getElem?_eq_some_iff.1 Y10.out).1) (fun e => by have := hno _ e; have := NG2.out; omega)).trans ((Below.heap_alloc _ _ _ (Array.getElem?_eq_some_iff.1 Y10.out).1).trans Y10.out)
            have z8 := (g9.block n8 (by simp; exact Nat.lt_succ_of_lt (Array.getElem?_eq_some_iff.1 Y8.out).1) (fun e => by have := hno _ e; have := N8.out; omega)).trans ((Below.heap_alloc _ _ _ (Array.getElem?_eq_some_iff.1 Y8.out).1).trans Y8.out)
            have b9 : Below w.heap.size w w9 := (BY.out.alloc BY.out.size _).grown G9.out (Nat.le_trans BY.out.size (by simp)) (fun k hk => by have := hno k hk; have := NW.out; omega)
            have s9 : W2.heap.size ≤ w9.heap.size := Nat.le_trans SY.out (Nat.le_trans (by simp) g9.size)
            have o9 := O9.out
            rw [pcs_push] at o9
            have tw := Two.new z10 PL.out CL.out
            have cn := node_any w9 p c PL.out CL.out (HT.out.below b9)
            rw [hv_agg, hv_agg, hv_agg] at cn
            have CN := Bx.mk cn; have T1 := Bx.mk tw.one; have T2 := Bx.mk tw.two; have P9 := Bx.mk o9; have B9 := Bx.mk b9; have E8 := Bx.mk z8; have S9 := Bx.mk s9
            clear hno g9 z10 z8 b9 o9 tw cn s9 O9 G9
            go_wp2_with (first
              | (guard_target =~ wpList _ _ _ (⟨some 45, _, _, _, _, _⟩ :: _) _ _; refine wpList_load_mid rfl 24 (.tmp 44) rfl g10 0 rfl (bcells p) _ T1.out underH rfl (hszB' PL.out) ?_)
              | (guard_target =~ wpList _ _ _ (⟨some 47, _, _, _, _, _⟩ :: _) _ _; refine wpList_load_mid rfl 24 (.tmp 46) rfl g10 32 rfl (bcells c) _ T2.out underH rfl (hszB' CL.out) ?_))
            refine CN.out.mono ?_
            rintro e wa ⟨rfl, hb⟩
            have ea := (hb.block _ (Array.getElem?_eq_some_iff.1 E8.out).1).trans E8.out
            have oa := own_keep P9.out (Keep.of_below hb (fun _ => False)) (fun _ _ h => h)
            have ob := own_keep oa (Keep.setRow wa n8 (ocells (nd p c))) (fun k hk e => by have := ownsRow_fresh oa k hk; have := N8.out; omega)
            have ba := below_setRow (B9.out.trans (hb.mono B9.out.size)) (show w.heap.size ≤ n8 by have := N8.out; omega) (ocells (nd p c))
            have sa : W2.heap.size ≤ (wa.setRow n8 (ocells (nd p c))).heap.size := Nat.le_trans S9.out (Nat.le_trans hb.size (by simp))
            have EA := Bx.mk ea; have OB := Bx.mk ob; have BA := Bx.mk ba; have SA := Bx.mk sa
            clear hb ea oa ob ba sa
            have ltb := LT.out
            go_wp2_with (guard_target =~ wpList _ _ _ (⟨none, _, _, _, _, _⟩ :: _) _ _; refine wpList_store_row rfl 24 (.tmp 8) (.tmp 48) rfl n8 (ocells (nd p c)) rfl rfl _ _ EA.out (hszL (nd_length _ _)) (by rw [ocells_size, ocells_size, CL.out, nd_length]) (ocells_one _) ?_)
            go_roundw
            case rel => exact ⟨t + 1, HLT.out, by go_num, by rw [HSP.out]; exact OB.out, by rw [HSC.out]; exact setRow_heap _ _ _ _ _ _ EA.out, SA.out, BA.out⟩
            case measure => have := HLT.out; simp [intOf]; omega
    · obtain rfl : t = l := by omega
      have e1 : ds.take t = ds := List.take_of_length_le (by rw [HLD.out]; exact Nat.le_refl _)
      have e2 : ps.take t = ps := List.take_of_length_le (by rw [← HLP.out]; exact Nat.le_refl _)
      rw [e1, e2] at HO
      have hfin := ownsRow_mono HO.out NW.out
      have HF := Bx.mk hfin
      clear hfin e1 e2 hlt
      go_wp2_with fail
      go_ret
      exact ⟨_, rfl, HF.out, BW.out⟩
end Go.Proofs.YtmlpldkgennmkaaDoor
