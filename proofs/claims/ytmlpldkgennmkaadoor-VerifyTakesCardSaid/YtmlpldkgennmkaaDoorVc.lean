/- cartularyref18.says. -/
import Derived.Test.YtmlpldkgennmkaaDoorVb
import Derived.Test.YtmlpldkgennmkaaDoorG5
namespace Go.Proofs.YtmlpldkgennmkaaDoor
set_option maxRecDepth 100000
open Go.RowKit
theorem u64_sub {a b : Nat} (ha : a < 18446744073709551616) (hb : b ≤ a) : IntKind.u64.wrap ((a : Int) - (b : Int)) = ((a - b : Nat) : Int) := by simp [IntKind.wrap, IntKind.bits, IntKind.signed]; omega
/-- the last hash -/
theorem Hss.last {w : World} {ad : Option Addr} {n cap : Nat} {ps : List (List UInt8)} (h : Hss w (.slice ad n cap) ps) (hne : 0 < ps.length) :
    ∃ Ba off px, ad = some ⟨Ba, off, none⟩ ∧ Ba < w.heap.size ∧ w.rangeAt Ba (off + (ps.length - 1) * 32) (bcells px) ∧ px.length = 32 ∧ ps = ps.take (ps.length - 1) ++ [px] := by
  obtain ⟨_, _, _, Ba, off, e, hB, hr, hl⟩ := h.at (ps.length - 1) (by omega)
  refine ⟨Ba, off, _, e, hB, hr, hl, ?_⟩
  rw [← List.take_succ_eq_append_getElem (by omega), show ps.length - 1 + 1 = ps.length by omega, List.take_length]
theorem btr2 {N : Nat} {w a b : World} (hN : N = w.heap.size) (h : Below N w a) (k : Below (N + 1) a b) : Below N w b := by subst hN; exact h.trans (k.mono (Nat.le_succ _))
def VS6 (N cap i _s k m Ba off : Nat) (leaf px x1 : List UInt8) (oi : Nat) (v : Value) (own : Nat → Option Nat) (w : World) : Prop :=
  match oi with
  | 0 => v = .int .u64 (i : Int)
  | 1 => v = .int .u64 (k : Int)
  | 2 => v = .agg (ocells leaf)
  | 3 => v = .slice (some ⟨Ba, off, none⟩) (m + 1) cap
  | 4 => v = .int .i64 (m : Int)
  | 5 => v = .slice (some ⟨Ba, off, none⟩) m cap
  | 6 => v = .agg (ocells x1)
  | 7 => v = .slice (some ⟨Ba, off, none⟩) (m + 1) cap
  | 8 => v = .int .i64 (m : Int)
  | 9 => v = .pointer (some ⟨Ba, off + m * 32, none⟩)
  | 10 => v = .agg (ocells px)
  | 11 => v = .agg (ocells (nd x1 px))
  | 12 => OutV own w (N + 1) 12 24 (ocells (nd x1 px))
  | _ => True
def VS6mk : Nat → Option Nat := fun _ => none
theorem VS6_mono (N cap i s k m Ba off : Nat) (leaf px x1 : List UInt8) (oi oj : Nat) (v : Value) (own : Nat → Option Nat) (w : World) (own' : Nat → Option Nat) (w' : World) (hij : oi ≠ oj) (h : VS6 N cap i s k m Ba off leaf px x1 oj v own w) (r : Rel VS6mk oi own w own' w') : VS6 N cap i s k m Ba off leaf px x1 oj v own' w' := by
  unfold VS6 at h ⊢
  split at h
  · exact h
  · exact h
  · exact h
  · exact h
  · exact h
  · exact h
  · exact h
  · exact h
  · exact h
  · exact h
  · exact h
  · exact h
  · exact h.stable r hij
  · trivial

def VS7 (N cap i s k m Ba off : Nat) (leaf px x1 : List UInt8) (oi : Nat) (v : Value) (own : Nat → Option Nat) (w : World) : Prop :=
  match oi with
  | 0 => v = .slice (some ⟨Ba, off, none⟩) (m + 1) cap
  | 1 => v = .int .i64 (m : Int)
  | 2 => v = .pointer (some ⟨Ba, off + m * 32, none⟩)
  | 3 => v = .agg (ocells px)
  | 4 => v = .int .u64 (i : Int)
  | 5 => v = .int .u64 (k : Int)
  | 6 => v = .int .u64 ((i - k : Nat) : Int)
  | 7 => v = .int .u64 (s : Int)
  | 8 => v = .int .u64 (k : Int)
  | 9 => v = .int .u64 ((s - k : Nat) : Int)
  | 10 => v = .agg (ocells leaf)
  | 11 => v = .slice (some ⟨Ba, off, none⟩) (m + 1) cap
  | 12 => v = .int .i64 (m : Int)
  | 13 => v = .slice (some ⟨Ba, off, none⟩) m cap
  | 14 => v = .agg (ocells x1)
  | 15 => v = .agg (ocells (nd px x1))
  | 16 => OutV own w (N + 1) 16 24 (ocells (nd px x1))
  | _ => True
def VS7mk : Nat → Option Nat := fun _ => none
theorem VS7_mono (N cap i s k m Ba off : Nat) (leaf px x1 : List UInt8) (oi oj : Nat) (v : Value) (own : Nat → Option Nat) (w : World) (own' : Nat → Option Nat) (w' : World) (hij : oi ≠ oj) (h : VS7 N cap i s k m Ba off leaf px x1 oj v own w) (r : Rel VS7mk oi own w own' w') : VS7 N cap i s k m Ba off leaf px x1 oj v own' w' := by
  unfold VS7 at h ⊢
  split at h
  · exact h
  · exact h
  · exact h
  · exact h
  · exact h
  · exact h
  · exact h
  · exact h
  · exact h
  · exact h
  · exact h
  · exact h
  · exact h
  · exact h
  · exact h
  · exact h
  · exact h.stable r hij
  · trivial

set_option maxHeartbeats 3200000 in
theorem says_any (s : Nat) : ∀ (i : Nat) (w : World) (leaf : List UInt8) (ad : Option Addr) (n cap : Nat) (ps : List (List UInt8)), i < s → s ≤ 9223372036854775808 → leaf.length = 32 → Hss w (.slice ad n cap) ps → ps.length = (hdirs i s).length →
    Calls Tryd.prog 33 #[.int .u64 (i : Int), .int .u64 (s : Int), hv leaf, .slice ad n cap] w fun e w' => e = .returned (hv (climb nd leaf (hdirs i s) ps)) ∧ Below w.heap.size w w' := by
  induction s using Nat.strongRecOn with
  | _ s ih =>
    intro i w leaf ad n cap ps hi hs hl hH hlen
    have x0 := (HashAt.new w leaf hl).below (er_al (Below.refl _ _) (.cells zeros32 24))
    have x1 : ((w.alloc (.cells (ocells leaf) 24)).alloc (.cells zeros32 24)).heap[w.heap.size + 1]? = some (.cells zeros32 24 (0, 0)) := by
      simpa using heap_alloc_new (w.alloc (.cells (ocells leaf) 24)) (.cells zeros32 24)
    have kb : Below w.heap.size w ((w.alloc (.cells (ocells leaf) 24)).alloc (.cells zeros32 24)) := er_al (er_al (Below.refl _ _) _) _
    have wsz : ((w.alloc (.cells (ocells leaf) 24)).alloc (.cells zeros32 24)).heap.size = w.heap.size + 2 := by simp
    have LL := Bx.mk hl; have HHS := Bx.mk hH; have HLEN := Bx.mk hlen; have IHH := Bx.mk ih
    clear hl hH hlen ih
    unfold hv
    go_enter Tryd.func33, Tryd.ntmps33
    go_upto_region 1 with (fail)
    change Code.wp _ _ _ _ ((w.alloc (.cells (ocells leaf) 24)).alloc (.cells zeros32 24))
    generalize (w.alloc (.cells (ocells leaf) 24)).alloc (.cells zeros32 24) = W at x0 x1 kb wsz ⊢
    obtain ⟨N, hN⟩ : ∃ N, N = w.heap.size := ⟨_, rfl⟩
    rw [← hN] at x0 x1 kb wsz ⊢
    have X0 := Bx.mk x0; have X1 := Bx.mk x1; have KB := Bx.mk kb; have WS := Bx.mk wsz; have HN := Bx.mk hN
    clear x0 x1 kb wsz hN
    by_cases h1 : s = 1
    · subst h1
      have hd := hdirs_small (i := i) (s := 1) (by decide)
      have HD := Bx.mk hd
      clear hd
      go_wp2_with (first
        | (guard_target =~ wpList _ _ _ (⟨some 13, _, _, _, _, _⟩ :: _) _ _; refine wpList_load_row rfl 24 (.tmp 6) rfl N rfl _ _ _ _ X0.out.1 underH rfl (hszL LL.out) ?_)
        | (guard_target =~ wpList _ _ _ (⟨none, _, _, _, _, _⟩ :: _) _ _; refine wpList_store_row rfl 24 (.tmp 8) (.tmp 13) rfl (N + 1) (ocells leaf) rfl rfl _ _ X1.out (hszL LL.out) (hsoL LL.out) (ocells_one _) ?_))
      exact bodyPost_ret (results_cell_row rfl _ _ (N + 1) _ (ocells leaf) _ _ rfl (setRow_heap _ _ _ _ _ _ X1.out) underH rfl (hszL LL.out)) rfl ⟨by rw [HD.out]; rfl, HN.out ▸ below_setRow KB.out (Nat.le_succ _) _⟩
    · have h2 : 2 ≤ s := by omega
      have hh := fun u => half_any u s h2 hs
      obtain ⟨g1, g2, g3⟩ := half_pos h2
      have hlt := hdirs_lt (i := i) (s := s) h2
      have hge := hdirs_ge (i := i) (s := s) h2
      generalize half s = k at hh g1 g2 g3 hlt hge
      have hs1 : ((s : Int) == 1) = false := by simp; omega
      have hs1' : ¬ (s : Int) = 1 := by omega
      have hne : 0 < ps.length := by
        rw [HLEN.out]
        by_cases h : i < k
        · rw [hlt h]; simp
        · rw [hge h]; simp
      obtain ⟨Ba, off, px, rfl, hB, hr, hpx, hps⟩ := HHS.out.last hne
      obtain ⟨_, c', e1, hc1, hc2⟩ := HHS.out.len
      have hcc : cap = c' := by cases e1; rfl
      subst hcc
      have hn : n = ps.length := by cases e1; rfl
      subst hn
      obtain ⟨m, hm⟩ : ∃ m, ps.length = m + 1 := ⟨ps.length - 1, by omega⟩
      have htk := HHS.out.take m (by omega)
      rw [hm] at hc1
      rw [hm, show m + 1 - 1 = m from rfl] at hr hps
      generalize hqs : ps.take m = qs at htk hps
      have hql : qs.length = m := by rw [← hqs]; simp; omega
      rw [hm]
      have HL1 := Bx.mk hlt; have HL2 := Bx.mk hge; have HH := Bx.mk hh; have PX := Bx.mk hpx; have RG := Bx.mk hr; have BL := Bx.mk hB; have HPS := Bx.mk hps; have HC1 := Bx.mk hc1; have HC2 := Bx.mk hc2; have HQL := Bx.mk hql
      have hm0 : (m : Int) + 1 - 1 = (m : Int) := by omega
      have hm1 : (0 : Int) ≤ (m : Int) := by omega
      have hm2 : (m : Int) < 9223372036854775807 := by omega
      have HTK := Bx.mk htk
      clear hlt hge hh hpx hr hB hps hc1 hc2 hqs hql e1 htk h1 hne
      have hlen := HLEN.out
      rw [hm] at hlen
      have HM1 := Bx.mk hlen
      clear HHS HLEN hlen hm
      have HHS := HTK
      by_cases hik : i < k
      · have hik' : (i : Int) < (k : Int) := by omega
        have hd := HL1.out hik
        have hlq : qs.length = (hdirs i k).length := by have := HM1.out; rw [hd, List.length_append, List.length_singleton] at this; rw [HQL.out]; omega
        obtain ⟨x1, hx1⟩ : ∃ x1, x1 = climb nd leaf (hdirs i k) qs := ⟨_, rfl⟩
        have ihc := fun u hu => IHH.out k (by omega) i u leaf (some ⟨Ba, off, none⟩) m cap qs hik (by omega) LL.out hu hlq
        have hx1l : x1.length = 32 := by rw [hx1]; exact climb_length LL.out _ _
        have hval : climb nd leaf (hdirs i s) ps = nd x1 px := by
          rw [hd, HPS.out, climb_snoc nd _ _ hlq.symm, ← hx1]; rfl
        rw [← hx1] at ihc
        simp only [hv_agg] at ihc
        have IH := Bx.mk ihc; have HV := Bx.mk hval; have X1L := Bx.mk hx1l
        clear ihc hval hx1l hx1 hlq hd hik
        go_upto_region 6 with (go_at_call 43; refine (HH.out _).mono ?_; rintro e w' ⟨rfl, rfl⟩)
        clear hik' hs1 hs1' hm0 hm1 hm2
        refine wp_region_own (n := 50) VS6mk (fun k => if k = N + 1 then some 12 else none) (VS6 N cap i s k m Ba off leaf px x1) (by kernel_rfl) (by kernel_rfl) rfl ?_ ?_ (VS6_mono N cap i s k m Ba off leaf px x1) ?_ ?_
        · exact fun k hk => if_neg (by have := WS.out; omega)
        · exact fun j i h => by cases h
        · intro oi o hi f u own hsame hsn hfr hdep
          have hx0 := (hsn.keep N X0.out.lt (if_neg (by omega))).trans X0.out.1
          have hb := hsn.below (B := N + 1) (fun k hk => if_neg (by omega)) (by have := WS.out; omega)
          have hbw := btr2 HN.out KB.out hb
          have hH := HHS.out.below (HN.out ▸ hbw)
          have hr := rangeAt_below RG.out BL.out (HN.out ▸ hbw)
          have hc1 := HC1.out; have hc2 := HC2.out
          match oi, hi with
          | 0, hi =>
            cases (show some _ = some o from hi)
            have e0 : f.tmps.getD 0 undef = .int .u64 (i : Int) := hsame.slot 0 (fun i o h => invB2_not 0 (by kernel_rfl) h)
            clear hdep hsame hi hfr
            exact ⟨wanted_none rfl, showsO_move hsn rfl _ rfl e0⟩
          | 1, hi =>
            cases (show some _ = some o from hi)
            have e9 : f.tmps.getD 9 undef = .int .u64 (k : Int) := hsame.slot 9 (fun i o h => invB2_not 9 (by kernel_rfl) h)
            clear hdep hsame hi hfr
            exact ⟨wanted_none rfl, showsO_move hsn rfl _ rfl e9⟩
          | 2, hi =>
            cases (show some _ = some o from hi)
            have e6 : f.tmps.getD 6 undef = .pointer (some ⟨N, 0, none⟩) := hsame.slot 6 (fun i o h => invB2_not 6 (by kernel_rfl) h)
            clear hdep hsame hi hfr
            exact ⟨wanted_none rfl, showsO_row hsn rfl 24 (.tmp 6) rfl N e6 (ocells leaf) hx0 underH rfl (hszL LL.out) rfl⟩
          | 3, hi =>
            cases (show some _ = some o from hi)
            have e3 : f.tmps.getD 3 undef = .slice (some ⟨Ba, off, none⟩) (m + 1) cap := hsame.slot 3 (fun i o h => invB2_not 3 (by kernel_rfl) h)
            clear hdep hsame hi hfr
            exact ⟨wanted_none rfl, showsO_move hsn rfl _ rfl e3⟩
          | 4, hi =>
            cases (show some _ = some o from hi)
            have e10 : f.tmps.getD 10 undef = .int .i64 (m : Int) := hsame.slot 10 (fun i o h => invB2_not 10 (by kernel_rfl) h)
            clear hdep hsame hi hfr
            exact ⟨wanted_none rfl, showsO_move hsn rfl _ rfl e10⟩
          | 5, hi =>
            cases (show some _ = some o from hi)
            have e25 : f.tmps.getD 25 undef = .slice (some ⟨Ba, off, none⟩) (m + 1) cap := depO (V := (VS6 N cap i s k m Ba off leaf px x1)) hdep 3 25 (by kernel_rfl) (by kernel_rfl)
            have e26 : f.tmps.getD 26 undef = .int .i64 (m : Int) := depO (V := (VS6 N cap i s k m Ba off leaf px x1)) hdep 4 26 (by kernel_rfl) (by kernel_rfl)
            clear hdep hsame hi hfr
            have f1 : ¬ cap < m := by omega
            have f2 : ¬ ((m : Int) + 1 ≤ (m : Int)) := by omega
            exact ⟨wanted_none rfl, showsO_pure hsn rfl (.slice (some ⟨Ba, off, none⟩) m cap) (by simp only [execOp, Act.eval]; go_simp) rfl⟩
          | 6, hi =>
            cases (show some _ = some o from hi)
            have e22 : f.tmps.getD 22 undef = .int .u64 (i : Int) := depO (V := (VS6 N cap i s k m Ba off leaf px x1)) hdep 0 22 (by kernel_rfl) (by kernel_rfl)
            have e23 : f.tmps.getD 23 undef = .int .u64 (k : Int) := depO (V := (VS6 N cap i s k m Ba off leaf px x1)) hdep 1 23 (by kernel_rfl) (by kernel_rfl)
            have e24 : f.tmps.getD 24 undef = .agg (ocells leaf) := depO (V := (VS6 N cap i s k m Ba off leaf px x1)) hdep 2 24 (by kernel_rfl) (by kernel_rfl)
            have e27 : f.tmps.getD 27 undef = .slice (some ⟨Ba, off, none⟩) m cap := depO (V := (VS6 N cap i s k m Ba off leaf px x1)) hdep 5 27 (by kernel_rfl) (by kernel_rfl)
            clear hdep hsame hi hfr
            have c := IH.out u hH
            exact ⟨wanted_none rfl, showsO_call1 hsn rfl 33 #[.int .u64 (i : Int), .int .u64 (k : Int), .agg (ocells leaf), .slice (some ⟨Ba, off, none⟩) m cap] (by simp only [execOp, Act.eval]; go_simp) (c) (fun _ => rfl)⟩
          | 7, hi =>
            cases (show some _ = some o from hi)
            have e3 : f.tmps.getD 3 undef = .slice (some ⟨Ba, off, none⟩) (m + 1) cap := hsame.slot 3 (fun i o h => invB2_not 3 (by kernel_rfl) h)
            clear hdep hsame hi hfr
            exact ⟨wanted_none rfl, showsO_move hsn rfl _ rfl e3⟩
          | 8, hi =>
            cases (show some _ = some o from hi)
            have e10 : f.tmps.getD 10 undef = .int .i64 (m : Int) := hsame.slot 10 (fun i o h => invB2_not 10 (by kernel_rfl) h)
            clear hdep hsame hi hfr
            exact ⟨wanted_none rfl, showsO_move hsn rfl _ rfl e10⟩
          | 9, hi =>
            cases (show some _ = some o from hi)
            have e29 : f.tmps.getD 29 undef = .slice (some ⟨Ba, off, none⟩) (m + 1) cap := depO (V := (VS6 N cap i s k m Ba off leaf px x1)) hdep 7 29 (by kernel_rfl) (by kernel_rfl)
            have e30 : f.tmps.getD 30 undef = .int .i64 (m : Int) := depO (V := (VS6 N cap i s k m Ba off leaf px x1)) hdep 8 30 (by kernel_rfl) (by kernel_rfl)
            clear hdep hsame hi hfr
            have f1 : ¬ cap < m := by omega
            have f2 : ¬ ((m : Int) + 1 ≤ (m : Int)) := by omega
            exact ⟨wanted_none rfl, showsO_pure hsn rfl (.pointer (some ⟨Ba, off + m * 32, none⟩)) (by simp only [execOp, Act.eval]; go_simp) rfl⟩
          | 10, hi =>
            cases (show some _ = some o from hi)
            have e31 : f.tmps.getD 31 undef = .pointer (some ⟨Ba, off + m * 32, none⟩) := depO (V := (VS6 N cap i s k m Ba off leaf px x1)) hdep 9 31 (by kernel_rfl) (by kernel_rfl)
            clear hdep hsame hi hfr
            exact ⟨wanted_none rfl, showsO_mid hsn rfl 24 (.tmp 31) rfl Ba (off + m * 32) e31 (bcells px) hr underH rfl (hszB PX.out) rfl⟩
          | 11, hi =>
            cases (show some _ = some o from hi)
            have e28 : f.tmps.getD 28 undef = .agg (ocells x1) := depO (V := (VS6 N cap i s k m Ba off leaf px x1)) hdep 6 28 (by kernel_rfl) (by kernel_rfl)
            have e32 : f.tmps.getD 32 undef = .agg (ocells px) := depO (V := (VS6 N cap i s k m Ba off leaf px x1)) hdep 10 32 (by kernel_rfl) (by kernel_rfl)
            clear hdep hsame hi hfr
            have c := rnode_any u x1 px X1L.out PX.out
            rw [hv_agg, hv_agg, hv_agg] at c
            exact ⟨wanted_none rfl, showsO_call1 hsn rfl 44 #[.agg (ocells x1), .agg (ocells px)] (by simp only [execOp, Act.eval]; go_simp) (c) (fun _ => rfl)⟩
          | 12, hi =>
            cases (show some _ = some o from hi)
            have e8 : f.tmps.getD 8 undef = .pointer (some ⟨N + 1, 0, none⟩) := hsame.slot 8 (fun i o h => invB2_not 8 (by kernel_rfl) h)
            have e33 : f.tmps.getD 33 undef = .agg (ocells (nd x1 px)) := depO (V := (VS6 N cap i s k m Ba off leaf px x1)) hdep 11 33 (by kernel_rfl) (by kernel_rfl)
            clear hdep hsame hi hfr
            exact ⟨wanted_none rfl, showsO_store_out hsn rfl 24 (.tmp 8) (.tmp 33) rfl (N + 1) e8 X1.out (if_pos rfl) (ocells (nd x1 px)) e33 (hszL (nd_length _ _)) (hsoL (nd_length _ _)) (ocells_one _) (fun _ h => h)⟩
          | n + 13, hi => exact absurd hi (by simp)
        · intro f u own hsame hsn hall
          have hb := hsn.below (B := N + 1) (fun k hk => if_neg (by omega)) (by have := WS.out; omega)
          have hbw := btr2 HN.out KB.out hb
          have q22 : f.tmps.getD 22 undef = .int .u64 (i : Int) := finO (V := (VS6 N cap i s k m Ba off leaf px x1)) hall 0 22 rfl
          have q23 : f.tmps.getD 23 undef = .int .u64 (k : Int) := finO (V := (VS6 N cap i s k m Ba off leaf px x1)) hall 1 23 rfl
          have q24 : f.tmps.getD 24 undef = .agg (ocells leaf) := finO (V := (VS6 N cap i s k m Ba off leaf px x1)) hall 2 24 rfl
          have q25 : f.tmps.getD 25 undef = .slice (some ⟨Ba, off, none⟩) (m + 1) cap := finO (V := (VS6 N cap i s k m Ba off leaf px x1)) hall 3 25 rfl
          have q26 : f.tmps.getD 26 undef = .int .i64 (m : Int) := finO (V := (VS6 N cap i s k m Ba off leaf px x1)) hall 4 26 rfl
          have q27 : f.tmps.getD 27 undef = .slice (some ⟨Ba, off, none⟩) m cap := finO (V := (VS6 N cap i s k m Ba off leaf px x1)) hall 5 27 rfl
          have q28 : f.tmps.getD 28 undef = .agg (ocells x1) := finO (V := (VS6 N cap i s k m Ba off leaf px x1)) hall 6 28 rfl
          have q29 : f.tmps.getD 29 undef = .slice (some ⟨Ba, off, none⟩) (m + 1) cap := finO (V := (VS6 N cap i s k m Ba off leaf px x1)) hall 7 29 rfl
          have q30 : f.tmps.getD 30 undef = .int .i64 (m : Int) := finO (V := (VS6 N cap i s k m Ba off leaf px x1)) hall 8 30 rfl
          have q31 : f.tmps.getD 31 undef = .pointer (some ⟨Ba, off + m * 32, none⟩) := finO (V := (VS6 N cap i s k m Ba off leaf px x1)) hall 9 31 rfl
          have q32 : f.tmps.getD 32 undef = .agg (ocells px) := finO (V := (VS6 N cap i s k m Ba off leaf px x1)) hall 10 32 rfl
          have q33 : f.tmps.getD 33 undef = .agg (ocells (nd x1 px)) := finO (V := (VS6 N cap i s k m Ba off leaf px x1)) hall 11 33 rfl
          obtain ⟨o_12, m_12⟩ : OutV own u (N + 1) 12 24 (ocells (nd x1 px)) := finN (V := (VS6 N cap i s k m Ba off leaf px x1)) hall 12 rfl
          obtain rfl := frame_eq hsame [(22, .int .u64 (i : Int)), (23, .int .u64 (k : Int)), (24, .agg (ocells leaf)), (25, .slice (some ⟨Ba, off, none⟩) (m + 1) cap), (26, .int .i64 (m : Int)), (27, .slice (some ⟨Ba, off, none⟩) m cap), (28, .agg (ocells x1)), (29, .slice (some ⟨Ba, off, none⟩) (m + 1) cap), (30, .int .i64 (m : Int)), (31, .pointer (some ⟨Ba, off + m * 32, none⟩)), (32, .agg (ocells px)), (33, .agg (ocells (nd x1 px)))] (by kernel_rfl) ⟨q22, q23, q24, q25, q26, q27, q28, q29, q30, q31, q32, q33, trivial⟩
          clear hall hsame q22 q23 q24 q25 q26 q27 q28 q29 q30 q31 q32 q33
          simp only [List.foldl, List.setIfInBounds_toArray, List.set_cons_succ, List.set_cons_zero]
          have HB := Bx.mk hbw; have HM := Bx.mk m_12
          clear hb hbw hsn o_12 m_12
          go_wp2_with fail
          exact bodyPost_ret (results_cell_row rfl _ _ (N + 1) _ _ _ _ rfl HM.out underH rfl (hszL (nd_length _ _))) rfl ⟨by rw [HV.out]; rfl, HN.out ▸ HB.out⟩
      · have hik' : decide (i < k) = false := decide_eq_false hik
        have hd := HL2.out hik
        have hlq : qs.length = (hdirs (i - k) (s - k)).length := by have := HM1.out; rw [hd, List.length_append, List.length_singleton] at this; rw [HQL.out]; omega
        obtain ⟨x1, hx1⟩ : ∃ x1, x1 = climb nd leaf (hdirs (i - k) (s - k)) qs := ⟨_, rfl⟩
        have ihc := fun u hu => IHH.out (s - k) (by omega) (i - k) u leaf (some ⟨Ba, off, none⟩) m cap qs (by omega) (by omega) LL.out hu hlq
        have hx1l : x1.length = 32 := by rw [hx1]; exact climb_length LL.out _ _
        have hval : climb nd leaf (hdirs i s) ps = nd px x1 := by
          rw [hd, HPS.out, climb_snoc nd _ _ hlq.symm, ← hx1]; rfl
        rw [← hx1] at ihc
        simp only [hv_agg] at ihc
        have d1 := u64_sub (a := i) (b := k) (by omega) (by omega)
        have d2 := u64_sub (a := s) (b := k) (by omega) (by omega)
        have IH := Bx.mk ihc; have HV := Bx.mk hval; have X1L := Bx.mk hx1l; have D1 := Bx.mk d1; have D2 := Bx.mk d2
        clear ihc hval hx1l hx1 hlq hd hik d1 d2 hs g1 g2 g3 hi h2
        go_wp2_with (go_at_call 43; refine (HH.out _).mono ?_; rintro e w' ⟨rfl, rfl⟩)
        clear hik' hs1 hs1' hm0 hm1 hm2
        refine wp_region_own (n := 50) VS7mk (fun k => if k = N + 1 then some 16 else none) (VS7 N cap i s k m Ba off leaf px x1) (by kernel_rfl) (by kernel_rfl) rfl ?_ ?_ (VS7_mono N cap i s k m Ba off leaf px x1) ?_ ?_
        · exact fun k hk => if_neg (by have := WS.out; omega)
        · exact fun j i h => by cases h
        · intro oi o hi f u own hsame hsn hfr hdep
          have hx0 := (hsn.keep N X0.out.lt (if_neg (by omega))).trans X0.out.1
          have hb := hsn.below (B := N + 1) (fun k hk => if_neg (by omega)) (by have := WS.out; omega)
          have hbw := btr2 HN.out KB.out hb
          have hH := HHS.out.below (HN.out ▸ hbw)
          have hr := rangeAt_below RG.out BL.out (HN.out ▸ hbw)
          have hc1 := HC1.out; have hc2 := HC2.out
          match oi, hi with
          | 0, hi =>
            cases (show some _ = some o from hi)
            have e3 : f.tmps.getD 3 undef = .slice (some ⟨Ba, off, none⟩) (m + 1) cap := hsame.slot 3 (fun i o h => invB2_not 3 (by kernel_rfl) h)
            clear hdep hsame hi hfr
            exact ⟨wanted_none rfl, showsO_move hsn rfl _ rfl e3⟩
          | 1, hi =>
            cases (show some _ = some o from hi)
            have e10 : f.tmps.getD 10 undef = .int .i64 (m : Int) := hsame.slot 10 (fun i o h => invB2_not 10 (by kernel_rfl) h)
            clear hdep hsame hi hfr
            exact ⟨wanted_none rfl, showsO_move hsn rfl _ rfl e10⟩
          | 2, hi =>
            cases (show some _ = some o from hi)
            have e34 : f.tmps.getD 34 undef = .slice (some ⟨Ba, off, none⟩) (m + 1) cap := depO (V := (VS7 N cap i s k m Ba off leaf px x1)) hdep 0 34 (by kernel_rfl) (by kernel_rfl)
            have e35 : f.tmps.getD 35 undef = .int .i64 (m : Int) := depO (V := (VS7 N cap i s k m Ba off leaf px x1)) hdep 1 35 (by kernel_rfl) (by kernel_rfl)
            clear hdep hsame hi hfr
            have f1 : ¬ cap < m := by omega
            have f2 : ¬ ((m : Int) + 1 ≤ (m : Int)) := by omega
            exact ⟨wanted_none rfl, showsO_pure hsn rfl (.pointer (some ⟨Ba, off + m * 32, none⟩)) (by simp only [execOp, Act.eval]; go_simp) rfl⟩
          | 3, hi =>
            cases (show some _ = some o from hi)
            have e36 : f.tmps.getD 36 undef = .pointer (some ⟨Ba, off + m * 32, none⟩) := depO (V := (VS7 N cap i s k m Ba off leaf px x1)) hdep 2 36 (by kernel_rfl) (by kernel_rfl)
            clear hdep hsame hi hfr
            exact ⟨wanted_none rfl, showsO_mid hsn rfl 24 (.tmp 36) rfl Ba (off + m * 32) e36 (bcells px) hr underH rfl (hszB PX.out) rfl⟩
          | 4, hi =>
            cases (show some _ = some o from hi)
            have e0 : f.tmps.getD 0 undef = .int .u64 (i : Int) := hsame.slot 0 (fun i o h => invB2_not 0 (by kernel_rfl) h)
            clear hdep hsame hi hfr
            exact ⟨wanted_none rfl, showsO_move hsn rfl _ rfl e0⟩
          | 5, hi =>
            cases (show some _ = some o from hi)
            have e9 : f.tmps.getD 9 undef = .int .u64 (k : Int) := hsame.slot 9 (fun i o h => invB2_not 9 (by kernel_rfl) h)
            clear hdep hsame hi hfr
            exact ⟨wanted_none rfl, showsO_move hsn rfl _ rfl e9⟩
          | 6, hi =>
            cases (show some _ = some o from hi)
            have e38 : f.tmps.getD 38 undef = .int .u64 (i : Int) := depO (V := (VS7 N cap i s k m Ba off leaf px x1)) hdep 4 38 (by kernel_rfl) (by kernel_rfl)
            have e39 : f.tmps.getD 39 undef = .int .u64 (k : Int) := depO (V := (VS7 N cap i s k m Ba off leaf px x1)) hdep 5 39 (by kernel_rfl) (by kernel_rfl)
            clear hdep hsame hi hfr
            have d1 := D1.out
            exact ⟨wanted_none rfl, showsO_pure hsn rfl (.int .u64 ((i - k : Nat) : Int)) (by simp only [execOp, Act.eval]; go_simp) rfl⟩
          | 7, hi =>
            cases (show some _ = some o from hi)
            have e1 : f.tmps.getD 1 undef = .int .u64 (s : Int) := hsame.slot 1 (fun i o h => invB2_not 1 (by kernel_rfl) h)
            clear hdep hsame hi hfr
            exact ⟨wanted_none rfl, showsO_move hsn rfl _ rfl e1⟩
          | 8, hi =>
            cases (show some _ = some o from hi)
            have e9 : f.tmps.getD 9 undef = .int .u64 (k : Int) := hsame.slot 9 (fun i o h => invB2_not 9 (by kernel_rfl) h)
            clear hdep hsame hi hfr
            exact ⟨wanted_none rfl, showsO_move hsn rfl _ rfl e9⟩
          | 9, hi =>
            cases (show some _ = some o from hi)
            have e41 : f.tmps.getD 41 undef = .int .u64 (s : Int) := depO (V := (VS7 N cap i s k m Ba off leaf px x1)) hdep 7 41 (by kernel_rfl) (by kernel_rfl)
            have e42 : f.tmps.getD 42 undef = .int .u64 (k : Int) := depO (V := (VS7 N cap i s k m Ba off leaf px x1)) hdep 8 42 (by kernel_rfl) (by kernel_rfl)
            clear hdep hsame hi hfr
            have d2 := D2.out
            exact ⟨wanted_none rfl, showsO_pure hsn rfl (.int .u64 ((s - k : Nat) : Int)) (by simp only [execOp, Act.eval]; go_simp) rfl⟩
          | 10, hi =>
            cases (show some _ = some o from hi)
            have e6 : f.tmps.getD 6 undef = .pointer (some ⟨N, 0, none⟩) := hsame.slot 6 (fun i o h => invB2_not 6 (by kernel_rfl) h)
            clear hdep hsame hi hfr
            exact ⟨wanted_none rfl, showsO_row hsn rfl 24 (.tmp 6) rfl N e6 (ocells leaf) hx0 underH rfl (hszL LL.out) rfl⟩
          | 11, hi =>
            cases (show some _ = some o from hi)
            have e3 : f.tmps.getD 3 undef = .slice (some ⟨Ba, off, none⟩) (m + 1) cap := hsame.slot 3 (fun i o h => invB2_not 3 (by kernel_rfl) h)
            clear hdep hsame hi hfr
            exact ⟨wanted_none rfl, showsO_move hsn rfl _ rfl e3⟩
          | 12, hi =>
            cases (show some _ = some o from hi)
            have e10 : f.tmps.getD 10 undef = .int .i64 (m : Int) := hsame.slot 10 (fun i o h => invB2_not 10 (by kernel_rfl) h)
            clear hdep hsame hi hfr
            exact ⟨wanted_none rfl, showsO_move hsn rfl _ rfl e10⟩
          | 13, hi =>
            cases (show some _ = some o from hi)
            have e45 : f.tmps.getD 45 undef = .slice (some ⟨Ba, off, none⟩) (m + 1) cap := depO (V := (VS7 N cap i s k m Ba off leaf px x1)) hdep 11 45 (by kernel_rfl) (by kernel_rfl)
            have e46 : f.tmps.getD 46 undef = .int .i64 (m : Int) := depO (V := (VS7 N cap i s k m Ba off leaf px x1)) hdep 12 46 (by kernel_rfl) (by kernel_rfl)
            clear hdep hsame hi hfr
            have f1 : ¬ cap < m := by omega
            have f2 : ¬ ((m : Int) + 1 ≤ (m : Int)) := by omega
            exact ⟨wanted_none rfl, showsO_pure hsn rfl (.slice (some ⟨Ba, off, none⟩) m cap) (by simp only [execOp, Act.eval]; go_simp) rfl⟩
          | 14, hi =>
            cases (show some _ = some o from hi)
            have e40 : f.tmps.getD 40 undef = .int .u64 ((i - k : Nat) : Int) := depO (V := (VS7 N cap i s k m Ba off leaf px x1)) hdep 6 40 (by kernel_rfl) (by kernel_rfl)
            have e43 : f.tmps.getD 43 undef = .int .u64 ((s - k : Nat) : Int) := depO (V := (VS7 N cap i s k m Ba off leaf px x1)) hdep 9 43 (by kernel_rfl) (by kernel_rfl)
            have e44 : f.tmps.getD 44 undef = .agg (ocells leaf) := depO (V := (VS7 N cap i s k m Ba off leaf px x1)) hdep 10 44 (by kernel_rfl) (by kernel_rfl)
            have e47 : f.tmps.getD 47 undef = .slice (some ⟨Ba, off, none⟩) m cap := depO (V := (VS7 N cap i s k m Ba off leaf px x1)) hdep 13 47 (by kernel_rfl) (by kernel_rfl)
            clear hdep hsame hi hfr
            have c := IH.out u hH
            exact ⟨wanted_none rfl, showsO_call1 hsn rfl 33 #[.int .u64 ((i - k : Nat) : Int), .int .u64 ((s - k : Nat) : Int), .agg (ocells leaf), .slice (some ⟨Ba, off, none⟩) m cap] (by simp only [execOp, Act.eval]; go_simp) (c) (fun _ => rfl)⟩
          | 15, hi =>
            cases (show some _ = some o from hi)
            have e37 : f.tmps.getD 37 undef = .agg (ocells px) := depO (V := (VS7 N cap i s k m Ba off leaf px x1)) hdep 3 37 (by kernel_rfl) (by kernel_rfl)
            have e48 : f.tmps.getD 48 undef = .agg (ocells x1) := depO (V := (VS7 N cap i s k m Ba off leaf px x1)) hdep 14 48 (by kernel_rfl) (by kernel_rfl)
            clear hdep hsame hi hfr
            have c := rnode_any u px x1 PX.out X1L.out
            rw [hv_agg, hv_agg, hv_agg] at c
            exact ⟨wanted_none rfl, showsO_call1 hsn rfl 44 #[.agg (ocells px), .agg (ocells x1)] (by simp only [execOp, Act.eval]; go_simp) (c) (fun _ => rfl)⟩
          | 16, hi =>
            cases (show some _ = some o from hi)
            have e8 : f.tmps.getD 8 undef = .pointer (some ⟨N + 1, 0, none⟩) := hsame.slot 8 (fun i o h => invB2_not 8 (by kernel_rfl) h)
            have e49 : f.tmps.getD 49 undef = .agg (ocells (nd px x1)) := depO (V := (VS7 N cap i s k m Ba off leaf px x1)) hdep 15 49 (by kernel_rfl) (by kernel_rfl)
            clear hdep hsame hi hfr
            exact ⟨wanted_none rfl, showsO_store_out hsn rfl 24 (.tmp 8) (.tmp 49) rfl (N + 1) e8 X1.out (if_pos rfl) (ocells (nd px x1)) e49 (hszL (nd_length _ _)) (hsoL (nd_length _ _)) (ocells_one _) (fun _ h => h)⟩
          | n + 17, hi => exact absurd hi (by simp)
        · intro f u own hsame hsn hall
          have hb := hsn.below (B := N + 1) (fun k hk => if_neg (by omega)) (by have := WS.out; omega)
          have hbw := btr2 HN.out KB.out hb
          have q34 : f.tmps.getD 34 undef = .slice (some ⟨Ba, off, none⟩) (m + 1) cap := finO (V := (VS7 N cap i s k m Ba off leaf px x1)) hall 0 34 rfl
          have q35 : f.tmps.getD 35 undef = .int .i64 (m : Int) := finO (V := (VS7 N cap i s k m Ba off leaf px x1)) hall 1 35 rfl
          have q36 : f.tmps.getD 36 undef = .pointer (some ⟨Ba, off + m * 32, none⟩) := finO (V := (VS7 N cap i s k m Ba off leaf px x1)) hall 2 36 rfl
          have q37 : f.tmps.getD 37 undef = .agg (ocells px) := finO (V := (VS7 N cap i s k m Ba off leaf px x1)) hall 3 37 rfl
          have q38 : f.tmps.getD 38 undef = .int .u64 (i : Int) := finO (V := (VS7 N cap i s k m Ba off leaf px x1)) hall 4 38 rfl
          have q39 : f.tmps.getD 39 undef = .int .u64 (k : Int) := finO (V := (VS7 N cap i s k m Ba off leaf px x1)) hall 5 39 rfl
          have q40 : f.tmps.getD 40 undef = .int .u64 ((i - k : Nat) : Int) := finO (V := (VS7 N cap i s k m Ba off leaf px x1)) hall 6 40 rfl
          have q41 : f.tmps.getD 41 undef = .int .u64 (s : Int) := finO (V := (VS7 N cap i s k m Ba off leaf px x1)) hall 7 41 rfl
          have q42 : f.tmps.getD 42 undef = .int .u64 (k : Int) := finO (V := (VS7 N cap i s k m Ba off leaf px x1)) hall 8 42 rfl
          have q43 : f.tmps.getD 43 undef = .int .u64 ((s - k : Nat) : Int) := finO (V := (VS7 N cap i s k m Ba off leaf px x1)) hall 9 43 rfl
          have q44 : f.tmps.getD 44 undef = .agg (ocells leaf) := finO (V := (VS7 N cap i s k m Ba off leaf px x1)) hall 10 44 rfl
          have q45 : f.tmps.getD 45 undef = .slice (some ⟨Ba, off, none⟩) (m + 1) cap := finO (V := (VS7 N cap i s k m Ba off leaf px x1)) hall 11 45 rfl
          have q46 : f.tmps.getD 46 undef = .int .i64 (m : Int) := finO (V := (VS7 N cap i s k m Ba off leaf px x1)) hall 12 46 rfl
          have q47 : f.tmps.getD 47 undef = .slice (some ⟨Ba, off, none⟩) m cap := finO (V := (VS7 N cap i s k m Ba off leaf px x1)) hall 13 47 rfl
          have q48 : f.tmps.getD 48 undef = .agg (ocells x1) := finO (V := (VS7 N cap i s k m Ba off leaf px x1)) hall 14 48 rfl
          have q49 : f.tmps.getD 49 undef = .agg (ocells (nd px x1)) := finO (V := (VS7 N cap i s k m Ba off leaf px x1)) hall 15 49 rfl
          obtain ⟨o_16, m_16⟩ : OutV own u (N + 1) 16 24 (ocells (nd px x1)) := finN (V := (VS7 N cap i s k m Ba off leaf px x1)) hall 16 rfl
          obtain rfl := frame_eq hsame [(34, .slice (some ⟨Ba, off, none⟩) (m + 1) cap), (35, .int .i64 (m : Int)), (36, .pointer (some ⟨Ba, off + m * 32, none⟩)), (37, .agg (ocells px)), (38, .int .u64 (i : Int)), (39, .int .u64 (k : Int)), (40, .int .u64 ((i - k : Nat) : Int)), (41, .int .u64 (s : Int)), (42, .int .u64 (k : Int)), (43, .int .u64 ((s - k : Nat) : Int)), (44, .agg (ocells leaf)), (45, .slice (some ⟨Ba, off, none⟩) (m + 1) cap), (46, .int .i64 (m : Int)), (47, .slice (some ⟨Ba, off, none⟩) m cap), (48, .agg (ocells x1)), (49, .agg (ocells (nd px x1)))] (by kernel_rfl) ⟨q34, q35, q36, q37, q38, q39, q40, q41, q42, q43, q44, q45, q46, q47, q48, q49, trivial⟩
          clear hall hsame q34 q35 q36 q37 q38 q39 q40 q41 q42 q43 q44 q45 q46 q47 q48 q49
          simp only [List.foldl, List.setIfInBounds_toArray, List.set_cons_succ, List.set_cons_zero]
          have HB := Bx.mk hbw; have HM := Bx.mk m_16
          clear hb hbw hsn o_16 m_16
          go_wp2_with fail
          exact bodyPost_ret (results_cell_row rfl _ _ (N + 1) _ _ _ _ rfl HM.out underH rfl (hszL (nd_length _ _))) rfl ⟨by rw [HV.out]; rfl, HN.out ▸ HB.out⟩
end Go.Proofs.YtmlpldkgennmkaaDoor
