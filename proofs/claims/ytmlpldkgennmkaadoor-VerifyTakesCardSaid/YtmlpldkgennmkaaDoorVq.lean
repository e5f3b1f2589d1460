/- verify.Consistency. -/
import Derived.Test.YtmlpldkgennmkaaDoorVo
import Derived.Test.YtmlpldkgennmkaaDoorG6
import Derived.Test.YtmlpldkgennmkaaDoorG5
namespace Go.Proofs.YtmlpldkgennmkaaDoor
set_option maxRecDepth 100000
open Go.RowKit
theorem bits_and64 {x y : Nat} (hx : x < 18446744073709551616) (hy : y < 18446744073709551616) : bits .and .u64 (x : Int) (y : Int) = ((x &&& y : Nat) : Int) := by
  show IntKind.u64.wrap (((BitVec.ofInt 64 (x : Int)) &&& (BitVec.ofInt 64 (y : Int))).toNat : Int) = _
  have e1 : ∀ n : Nat, n < 18446744073709551616 → (BitVec.ofInt 64 (n : Int)).toNat = n := fun n h => by rw [BitVec.toNat_ofInt]; omega
  rw [BitVec.toNat_and, e1 x hx, e1 y hy]
  have := Nat.and_lt_two_pow (n := 64) x hy
  simp [IntKind.wrap, IntKind.bits, IntKind.signed]
  omega
/-- where a proof's climbing begins -/
def conS (before : List UInt8) (ds : List Bool) (ps : List (List UInt8)) : Option (List UInt8 × List (List UInt8)) :=
  if ds.all (!·) = true then some (before, ps) else match ps with | [] => none | p :: r => some (p, r)
/-- does a proof hold? -/
def conOk (before after : List UInt8) (ds : List Bool) (ps : List (List UInt8)) : Bool :=
  match conS before ds ps with
  | none => false
  | some (f, r) => r.length == ds.length && (climbO nd f ds r == before && climb nd f ds r == after)
noncomputable def consV (A : Nat → Addr) (o s : Nat) (before after : List UInt8) (ps : List (List UInt8)) : Value :=
  if 9223372036854775808 < s ∨ o = 0 ∨ s < o then errVal A 4
  else if o = s then (if ps = [] ∧ before = after then .nilIface else errVal A 9)
  else if conOk before after (hsdirs o s) ps = true then .nilIface else errVal A 9
theorem climbO_length {h : List UInt8} (hh : h.length = 32) : ∀ (ds : List Bool) (ps : List (List UInt8)), (climbO nd h ds ps).length = 32
  | [], _ => hh
  | _ :: _, [] => hh
  | d :: ds, p :: ps => climbO_length (by cases d; exact hh; exact nd_length _ _) ds ps
theorem Hss.tail {w : World} {B off n cap : Nat} {p : List UInt8} {ps : List (List UInt8)} {ad : Option Addr} (h : Hss w (.slice ad n cap) (p :: ps)) (hne : ps ≠ [] → ad = some ⟨B, off, none⟩) (ad' : Option Addr) (had : ps ≠ [] → ad' = some ⟨B, off + 32, none⟩) : Hss w (.slice ad' ps.length (cap - 1)) ps := by
  obtain ⟨h0, a, c, e, h1, h2, h3⟩ := h
  cases e
  refine ⟨fun x hx => h0 x (List.mem_cons_of_mem _ hx), ad', cap - 1, rfl, by simp at h1; omega, by omega, fun hn => ?_⟩
  obtain ⟨B', o', e1, e2, e3⟩ := h3 (by simp)
  rw [hne hn] at e1
  cases e1
  refine ⟨B, off + 32, had hn, e2, fun i hi => ?_⟩
  have := e3 (i + 1) (by simpa using hi)
  rw [List.getElem_cons_succ] at this
  rwa [show off + 32 + i * 32 = off + (i + 1) * 32 by omega]

theorem b3 {w W W1 u : World} {n13 : Nat} (h13 : n13 = W.heap.size) (kb : Below w.heap.size w W) (k1 : Below W.heap.size W W1) (hb : Below n13 W1 u) : Below w.heap.size w u ∧ Below W.heap.size W u := by
  subst h13
  exact ⟨(kb.trans (k1.mono kb.size)).trans (hb.mono kb.size), k1.trans hb⟩
def VC15 (n13 cap l Ba off : Nat) (ad2 : Option Addr) (p0 : List UInt8) (oi : Nat) (v : Value) (own : Nat → Option Nat) (w : World) : Prop :=
  match oi with
  | 0 => v = .slice (some ⟨Ba, off, none⟩) (l + 1) cap
  | 1 => v = .pointer (some ⟨Ba, off, none⟩)
  | 2 => v = .agg (ocells p0)
  | 3 => v = .slice (some ⟨Ba, off, none⟩) (l + 1) cap
  | 4 => v = .slice ad2 l (cap - 1)
  | 5 => OutV own w (n13) 5 24 (ocells p0)
  | 6 => v = .slice ad2 l (cap - 1)
  | _ => True
def VC15mk : Nat → Option Nat := fun _ => none
theorem VC15_mono (n13 cap l Ba off : Nat) (ad2 : Option Addr) (p0 : List UInt8) (oi oj : Nat) (v : Value) (own : Nat → Option Nat) (w : World) (own' : Nat → Option Nat) (w' : World) (hij : oi ≠ oj) (h : VC15 n13 cap l Ba off ad2 p0 oj v own w) (r : Rel VC15mk oi own w own' w') : VC15 n13 cap l Ba off ad2 p0 oj v own' w' := by
  unfold VC15 at h ⊢
  split at h
  · exact h
  · exact h
  · exact h
  · exact h
  · exact h
  · exact h.stable r hij
  · exact h
  · trivial

set_option maxHeartbeats 6400000 in
theorem cons_any (A : Nat → Addr) (w : World) (o s : Nat) (ho : o < 18446744073709551616) (hs64 : s < 18446744073709551616) (before after : List UInt8) (hb : before.length = 32) (ha : after.length = 32) (ad : Option Addr) (n cap : Nat) (ps : List (List UInt8)) (hH : Hss w (.slice ad n cap) ps) (hT : Hs A w) :
    Calls Tryd.prog 17 #[.int .u64 (o : Int), .int .u64 (s : Int), hv before, hv after, .slice ad n cap] w fun e w' => e = .returned (consV A o s before after ps) ∧ Below w.heap.size w w' := by
  have x0 := (HashAt.new w before hb).below (er_al (Below.refl _ _) (.cells (ocells after) 24))
  have x1 := HashAt.new (w.alloc (.cells (ocells before) 24)) after ha
  rw [show (w.alloc (.cells (ocells before) 24)).heap.size = w.heap.size + 1 by simp] at x1
  have kb : Below w.heap.size w ((w.alloc (.cells (ocells before) 24)).alloc (.cells (ocells after) 24)) := er_al (er_al (Below.refl _ _) _) _
  obtain ⟨_, c', e1, hc1, hc2⟩ := hH.len
  have hcc : cap = c' := by cases e1; rfl
  subst hcc
  have hn : n = ps.length := by cases e1; rfl
  subst hn
  have BL := Bx.mk hb; have AL := Bx.mk ha; have HH := Bx.mk hT; have HHS := Bx.mk hH; have HC1 := Bx.mk hc1; have HC2 := Bx.mk hc2
  clear hb ha hT hH e1 hc1 hc2
  unfold hv
  go_enter Tryd.func17, Tryd.ntmps17
  go_upto_region 1 with (fail)
  change Code.wp _ _ _ _ ((w.alloc (.cells (ocells before) 24)).alloc (.cells (ocells after) 24))
  generalize (w.alloc (.cells (ocells before) 24)).alloc (.cells (ocells after) 24) = W at x0 x1 kb ⊢
  obtain ⟨N, hN⟩ : ∃ N, N = w.heap.size := ⟨_, rfl⟩
  rw [← hN] at x0 x1 ⊢
  have X0 := Bx.mk x0; have X1 := Bx.mk x1; have KB := Bx.mk kb; have HN := Bx.mk hN
  clear x0 x1 kb hN
  by_cases hbad : 9223372036854775808 < s ∨ o = 0 ∨ s < o
  · have hv : consV A o s before after ps = errVal A 4 := by unfold consV; rw [if_pos hbad]
    have HV := Bx.mk hv
    clear hv
    by_cases c1 : (9223372036854775808 : Int) < (s : Int)
    · clear hbad
      have gE : W.cell? ⟨0, 0, none⟩ = some (.iface 144 (.pointer (some (A 4)))) := (HH.out.below KB.out).err.glob 4 (by decide)
      go_wp2_with fail
      go_ret
      exact ⟨by rw [HV.out]; rfl, KB.out⟩
    · by_cases c2 : o = 0
      · subst c2
        clear hbad
        have gE : W.cell? ⟨0, 0, none⟩ = some (.iface 144 (.pointer (some (A 4)))) := (HH.out.below KB.out).err.glob 4 (by decide)
        go_wp2_with fail
        go_ret
        exact ⟨by rw [HV.out]; rfl, KB.out⟩
      · have c3 : (s : Int) < (o : Int) := by omega
        have c2' : ((o : Int) == 0) = false := by simpa using c2
        have c2'' : ¬ (o : Int) = 0 := by omega
        clear hbad c2
        have gE : W.cell? ⟨0, 0, none⟩ = some (.iface 144 (.pointer (some (A 4)))) := (HH.out.below KB.out).err.glob 4 (by decide)
        go_wp2_with fail
        go_ret
        exact ⟨by rw [HV.out]; rfl, KB.out⟩
  · have c1 : ¬ (9223372036854775808 : Int) < (s : Int) := by omega
    have c2' : ((o : Int) == 0) = false := by simp; omega
    have c2'' : ¬ (o : Int) = 0 := by omega
    have c3 : ¬ (s : Int) < (o : Int) := by omega
    by_cases hos : o = s
    · subst hos
      by_cases hp : ps = []
      · subst hp
        by_cases hba : before = after
        · have hv : consV A o o before after [] = .nilIface := by unfold consV; rw [if_neg hbad, if_pos rfl, if_pos ⟨rfl, hba⟩]
          have HV := Bx.mk hv
          have q := fun u => hv_neq u before after BL.out AL.out
          rw [show (before == after) = true by rw [hba]; simp] at q
          simp only [hv_agg, Bool.not_true] at q
          clear hv hbad hba
          go_wp2_with (first
            | (guard_target =~ wpList _ _ _ (⟨some 36, _, _, _, _, _⟩ :: _) _ _; refine wpList_load_row_w rfl 24 (.tmp 7) rfl N rfl _ _ _ _ X0.out.1 underH rfl (hszL BL.out) ?_)
            | (guard_target =~ wpList _ _ _ (⟨some 37, _, _, _, _, _⟩ :: _) _ _; refine wpList_load_row_w rfl 24 (.tmp 8) rfl (N + 1) rfl _ _ _ _ X1.out.1 underH rfl (hszL AL.out) ?_))
          go_ret
          exact ⟨by rw [HV.out]; rfl, HN.out ▸ KB.out⟩
        · have hv : consV A o o before after [] = errVal A 9 := by unfold consV; rw [if_neg hbad, if_pos rfl, if_neg (by simpa using hba)]
          have HV := Bx.mk hv
          have q := fun u => hv_neq u before after BL.out AL.out
          rw [show (before == after) = false from beq_eq_false_iff_ne.2 hba] at q
          simp only [hv_agg, Bool.not_false] at q
          have gE : W.cell? ⟨1, 0, none⟩ = some (.iface 144 (.pointer (some (A 9)))) := (HH.out.below KB.out).err.glob 9 (by decide)
          clear hv hbad hba
          go_wp2_with (first
            | (guard_target =~ wpList _ _ _ (⟨some 36, _, _, _, _, _⟩ :: _) _ _; refine wpList_load_row_w rfl 24 (.tmp 7) rfl N rfl _ _ _ _ X0.out.1 underH rfl (hszL BL.out) ?_)
            | (guard_target =~ wpList _ _ _ (⟨some 37, _, _, _, _, _⟩ :: _) _ _; refine wpList_load_row_w rfl 24 (.tmp 8) rfl (N + 1) rfl _ _ _ _ X1.out.1 underH rfl (hszL AL.out) ?_))
          go_ret
          exact ⟨by rw [HV.out]; rfl, HN.out ▸ KB.out⟩
      · have hv : consV A o o before after ps = errVal A 9 := by unfold consV; rw [if_neg hbad, if_pos rfl, if_neg (by simp [hp])]
        have HV := Bx.mk hv
        have hl : 0 < ps.length := List.length_pos_iff.2 hp
        have l1 : ¬ (ps.length : Int) = 0 := by omega
        have l2 : ((ps.length : Int) == 0) = false := by simpa using l1
        have gE : W.cell? ⟨1, 0, none⟩ = some (.iface 144 (.pointer (some (A 9)))) := (HH.out.below KB.out).err.glob 9 (by decide)
        have HC1' := Bx.mk hl
        clear hv hbad hp hl
        generalize ps.length = l at l1 l2 ⊢
        go_wp2_with fail
        go_ret
        exact ⟨by rw [HV.out]; rfl, HN.out ▸ KB.out⟩
    · have hlt : o < s := by omega
      have h0 : 0 < o := by omega
      have hdd := sdirs_hsdirs s o h0 hlt
      have hwh := hsdirs_whole s o h0 hlt
      have hnv : ∀ b, conOk before after (hsdirs o s) ps = b → consV A o s before after ps = if b then .nilIface else errVal A 9 := fun b hb => by unfold consV; rw [if_neg hbad, if_neg hos, hb]
      have n1 : ((o : Int) == (s : Int)) = false := by simp; omega
      have n2 : ¬ (o : Int) = (s : Int) := by omega
      have d1 : IntKind.u64.wrap ((o : Int) - 1) = ((o - 1 : Nat) : Int) := by simp [IntKind.wrap, IntKind.bits, IntKind.signed]; omega
      have d2 : IntKind.u64.wrap ((s : Int) - 1) = ((s - 1 : Nat) : Int) := by simp [IntKind.wrap, IntKind.bits, IntKind.signed]; omega
      generalize hds : hsdirs o s = ds at hdd hwh hnv
      have HDD := Bx.mk hdd; have HWH := Bx.mk hwh; have HNV := Bx.mk hnv; have H0 := Bx.mk h0; have HLT := Bx.mk hlt; have D1 := Bx.mk d1
      have hs63 : s ≤ 9223372036854775808 := by omega
      clear hdd hwh hnv hds hbad hos h0 hlt
      go_upto_block 18 with (fail)
      clear c1 c2' c2'' c3 n1 n2 d1 d2
      go_loop [11, 12] (fun x y => ∃ p q : Nat, p < 18446744073709551616 ∧ q < 18446744073709551616 ∧ x = .int .u64 (p : Int) ∧ y = .int .u64 (q : Int) ∧ strip p q = strip (o - 1) (s - 1)) (fun x _ => (intOf x).toNat)
      case atStart => exact ⟨o - 1, s - 1, by omega, by omega, rfl, rfl, rfl⟩
      case round =>
        obtain ⟨p, q, hp, hq, rfl, rfl, hu⟩ := hrel
        have HU := Bx.mk hu; clear hu
        have hand := and_one p hp
        by_cases hodd : p % 2 = 1
        · have hz := strip_odd (l := q) hodd
          rw [HU.out] at hz
          rw [hodd] at hand
          have HZ := Bx.mk hz
          have HO := Bx.mk hodd
          clear hz hodd
          go_wp2_with fail
          go_round
          case rel => exact ⟨p / 2, q / 2, by omega, by omega, by go_num, by go_num, HZ.out.symm⟩
          case measure => simp [intOf]; have := HO.out; omega
        · have hz := strip_even (n := p) (l := q) (by omega)
          have hD : dirs p q = ds := by
            rw [← HDD.out]; unfold sdirs; rw [← HU.out, hz]
          rw [show p % 2 = 0 by omega] at hand
          have HD := Bx.mk hD
          clear hz hodd hD
          go_upto_region 12 with (first
            | (guard_target =~ wpList _ _ _ (⟨some 52, _, _, _, _, _⟩ :: _) _ _; refine wpList_load_row rfl 24 (.tmp 7) rfl N rfl _ _ _ _ X0.out.1 underH rfl (hszL BL.out) ?_)
            | (guard_target =~ wpList _ _ _ (⟨none, _, _, _, _, _⟩ :: _) _ _; refine wpList_store_row rfl 24 (.tmp 13) (.tmp 52) rfl W.heap.size (ocells before) rfl rfl _ zeros32 (heap_alloc_new _ _) (hszL BL.out) (hsoL BL.out) (ocells_one _) ?_; rw [setRow_alloc_new _ _ _ _ _ rfl]))
          clear hand
          have x13 := HashAt.new W before BL.out
          have b13 := er_al (Below.refl W.heap.size W) (.cells (ocells before) 24)
          generalize W.alloc (.cells (ocells before) 24) = W1 at x13 b13 ⊢
          obtain ⟨n13, h13⟩ : ∃ n, n = W.heap.size := ⟨_, rfl⟩
          rw [← h13] at x13 ⊢
          have X13 := Bx.mk x13; have B13 := Bx.mk b13; have H13 := Bx.mk h13
          clear x13 b13 h13
          have d1 := D1.out
          have hz := bits_and64 (x := o) (y := o - 1) ho (by omega)
          have hwh := HWH.out
          generalize o &&& (o - 1) = z at hz hwh
          have HWZ := Bx.mk hwh
          clear hwh HWH
          go_upto_if 57 with (fail)
          clear d1 hz
          go_cut [4] (fun v wc => ∃ (ad' : Option Addr) (cap' : Nat) (f : List UInt8) (r : List (List UInt8)) (wv : World), wv = wc ∧ conS before ds ps = some (f, r) ∧ v = .slice ad' r.length cap' ∧ Hss wv (.slice ad' r.length cap') r ∧ HashAt wv n13 f ∧ Below W.heap.size W wv)
          case first =>
            by_cases hz0 : z = 0
            · have hc : conS before ds ps = some (before, ps) := by unfold conS; rw [if_pos (HWZ.out.2 hz0)]
              have HC := Bx.mk hc
              subst hz0
              clear hc
              go_wp2_with fail
              go_meet
              case rel => exact ⟨ad, cap, before, ps, _, rfl, HC.out, rfl, (HHS.out.below KB.out).below B13.out, X13.out, B13.out⟩
            · have hz1 : ¬ (z : Int) = 0 := by omega
              have hz2 : ((z : Int) == 0) = false := by simpa using hz0
              have hnw : ¬ ds.all (!·) = true := fun h => hz0 (HWZ.out.1 h)
              cases ps with
              | nil =>
                have hc : conOk before after ds [] = false := by unfold conOk conS; rw [if_neg hnw]
                have hv := HNV.out _ hc
                have HV := Bx.mk hv
                have gE : W1.cell? ⟨1, 0, none⟩ = some (.iface 144 (.pointer (some (A 9)))) := ((HH.out.below KB.out).below B13.out).err.glob 9 (by decide)
                clear hc hv hnw hz0
                go_wp2_with fail
                go_ret
                exact ⟨by rw [HV.out]; rfl, KB.out.trans (B13.out.mono KB.out.size)⟩
              | cons p0 r =>
                have hc : conS before ds (p0 :: r) = some (p0, r) := by unfold conS; rw [if_neg hnw]
                have HC := Bx.mk hc
                have hlen : (p0 :: r).length = r.length + 1 := rfl
                obtain ⟨_, _, _, Ba, off, rfl, hBa, hr, hp0⟩ := HHS.out.at 0 (by simp)
                rw [Nat.zero_mul, Nat.add_zero] at hr
                have RG := Bx.mk hr; have BLT := Bx.mk hBa; have PL := Bx.mk (show p0.length = 32 from hp0)
                have l1 : ¬ (r.length : Int) + 1 = 0 := by omega
                have l2 : ((r.length : Int) + 1 == 0) = false := by simpa using l1
                have l3 : ((r.length + 1 : Nat) : Int) = (r.length : Int) + 1 := rfl
                have l4 : r.length + 1 ≤ cap := HC1.out
                have l5 := HC2.out
                rw [hlen]
                obtain ⟨l, hl⟩ : ∃ l, l = r.length := ⟨_, rfl⟩
                rw [← hl] at l1 l2 l3 l4 ⊢
                obtain ⟨ad2, had⟩ : ∃ ad2 : Option Addr, (cap = 1 ∧ ad2 = some ⟨Ba, off, none⟩) ∨ (cap ≠ 1 ∧ ad2 = some ⟨Ba, off + 32, none⟩) := by
                  by_cases hc1 : cap = 1
                  · exact ⟨_, .inl ⟨hc1, rfl⟩⟩
                  · exact ⟨_, .inr ⟨hc1, rfl⟩⟩
                have HLR := Bx.mk hl; have HAD := Bx.mk had; have L4 := Bx.mk l4
                clear hc hnw hz0 hlen hr hBa hp0 hl had
                go_upto_region 15 with (fail)
                clear l1 l2 l3 l4 hz1 hz2
                refine wp_region_own3 (n := 123) VC15mk (fun k => if k = n13 then some 5 else none) (VC15 n13 cap l Ba off ad2 p0) (by kernel_rfl) (by kernel_rfl) rfl ?_ ?_ (VC15_mono n13 cap l Ba off ad2 p0) ?_ ?_
                · exact fun k hk => if_neg (by have := X13.out.lt; omega)
                · exact fun j i h => by cases h
                · intro oi o hi f u own hsame hsn hfr hlate hdep
                  have hb := hsn.below (B := n13) (fun k hk => if_neg (by omega)) (by have := X13.out.lt; omega)
                  have hr := rangeAt_below RG.out BLT.out (b3 H13.out KB.out B13.out hb).1
                  match oi, hi with
                  | 0, hi =>
                    cases (show some _ = some o from hi)
                    have e4 : f.tmps.getD 4 undef = .slice (some ⟨Ba, off, none⟩) (l + 1) cap := hlate 4 (late_of (by kernel_rfl))
                    clear hdep hsame hi hlate hfr
                    exact ⟨wanted_none rfl, showsO_move hsn rfl _ rfl e4⟩
                  | 1, hi =>
                    cases (show some _ = some o from hi)
                    have e62 : f.tmps.getD 62 undef = .slice (some ⟨Ba, off, none⟩) (l + 1) cap := depO (V := (VC15 n13 cap l Ba off ad2 p0)) hdep 0 62 (by kernel_rfl) (by kernel_rfl)
                    clear hdep hsame hi hlate hfr
                    have f1 : ¬ (l : Int) + 1 ≤ 0 := by omega
                    have f2 : (0 : Int) < (l : Int) + 1 := by omega
                    exact ⟨wanted_none rfl, showsO_pure hsn rfl (.pointer (some ⟨Ba, off, none⟩)) (by simp only [execOp, Act.eval]; go_simp) rfl⟩
                  | 2, hi =>
                    cases (show some _ = some o from hi)
                    have e63 : f.tmps.getD 63 undef = .pointer (some ⟨Ba, off, none⟩) := depO (V := (VC15 n13 cap l Ba off ad2 p0)) hdep 1 63 (by kernel_rfl) (by kernel_rfl)
                    clear hdep hsame hi hlate hfr
                    exact ⟨wanted_none rfl, showsO_mid hsn rfl 24 (.tmp 63) rfl Ba (off) e63 (bcells p0) hr underH rfl (hszB PL.out) rfl⟩
                  | 3, hi =>
                    cases (show some _ = some o from hi)
                    have e4 : f.tmps.getD 4 undef = .slice (some ⟨Ba, off, none⟩) (l + 1) cap := hlate 4 (late_of (by kernel_rfl))
                    clear hdep hsame hi hlate hfr
                    exact ⟨wanted_none rfl, showsO_move hsn rfl _ rfl e4⟩
                  | 4, hi =>
                    cases (show some _ = some o from hi)
                    have e65 : f.tmps.getD 65 undef = .slice (some ⟨Ba, off, none⟩) (l + 1) cap := depO (V := (VC15 n13 cap l Ba off ad2 p0)) hdep 3 65 (by kernel_rfl) (by kernel_rfl)
                    clear hdep hsame hi hlate hfr
                    have f1 : ¬ (l : Int) + 1 < 1 := by omega
                    have f2 : (1 : Int) ≤ (l : Int) + 1 := by omega
                    have f3 : l + 1 ≤ cap := L4.out
                    have had := HAD.out
                    exact ⟨wanted_none rfl, showsO_pure hsn rfl (.slice ad2 l (cap - 1)) (by
                      rcases had with ⟨hc, hd⟩ | ⟨hc, hd⟩
                      · subst hc; subst hd
                        obtain rfl : l = 0 := by omega
                        simp only [execOp, Act.eval]; go_simp
                      · subst hd
                        simp only [execOp, Act.eval]; go_simp) rfl⟩
                  | 5, hi =>
                    cases (show some _ = some o from hi)
                    have e13 : f.tmps.getD 13 undef = .pointer (some ⟨n13, 0, none⟩) := hsame.slot 13 (fun i o h => invB2_not 13 (by kernel_rfl) h)
                    have e64 : f.tmps.getD 64 undef = .agg (ocells p0) := depO (V := (VC15 n13 cap l Ba off ad2 p0)) hdep 2 64 (by kernel_rfl) (by kernel_rfl)
                    clear hdep hsame hi hlate hfr
                    exact ⟨wanted_none rfl, showsO_store_out hsn rfl 24 (.tmp 13) (.tmp 64) rfl (n13) e13 X13.out.1 (if_pos rfl) (ocells p0) e64 (hszL PL.out) (by rw [ocells_size, ocells_size, BL.out, PL.out]) (ocells_one _) (fun _ h => h)⟩
                  | 6, hi =>
                    cases (show some _ = some o from hi)
                    have e66 : f.tmps.getD 66 undef = .slice ad2 l (cap - 1) := depO (V := (VC15 n13 cap l Ba off ad2 p0)) hdep 4 66 (by kernel_rfl) (by kernel_rfl)
                    clear hdep hsame hi hlate hfr
                    exact ⟨wanted_none rfl, showsO_assign hsn rfl _ rfl e66⟩
                  | n + 7, hi => exact absurd hi (by simp)
                · intro f u own hsame hsn hall
                  have hb := hsn.below (B := n13) (fun k hk => if_neg (by omega)) (by have := X13.out.lt; omega)
                  have q62 : f.tmps.getD 62 undef = .slice (some ⟨Ba, off, none⟩) (l + 1) cap := finO (V := (VC15 n13 cap l Ba off ad2 p0)) hall 0 62 rfl
                  have q63 : f.tmps.getD 63 undef = .pointer (some ⟨Ba, off, none⟩) := finO (V := (VC15 n13 cap l Ba off ad2 p0)) hall 1 63 rfl
                  have q64 : f.tmps.getD 64 undef = .agg (ocells p0) := finO (V := (VC15 n13 cap l Ba off ad2 p0)) hall 2 64 rfl
                  have q65 : f.tmps.getD 65 undef = .slice (some ⟨Ba, off, none⟩) (l + 1) cap := finO (V := (VC15 n13 cap l Ba off ad2 p0)) hall 3 65 rfl
                  have q66 : f.tmps.getD 66 undef = .slice ad2 l (cap - 1) := finO (V := (VC15 n13 cap l Ba off ad2 p0)) hall 4 66 rfl
                  obtain ⟨o_5, m_5⟩ : OutV own u (n13) 5 24 (ocells p0) := finN (V := (VC15 n13 cap l Ba off ad2 p0)) hall 5 rfl
                  have q4 : f.tmps.getD 4 undef = .slice ad2 l (cap - 1) := finO (V := (VC15 n13 cap l Ba off ad2 p0)) hall 6 4 rfl
                  obtain rfl := frame_eq hsame [(62, .slice (some ⟨Ba, off, none⟩) (l + 1) cap), (63, .pointer (some ⟨Ba, off, none⟩)), (64, .agg (ocells p0)), (65, .slice (some ⟨Ba, off, none⟩) (l + 1) cap), (66, .slice ad2 l (cap - 1)), (4, .slice ad2 l (cap - 1))] (by kernel_rfl) ⟨q62, q63, q64, q65, q66, q4, trivial⟩
                  clear hall hsame q62 q63 q64 q65 q66 q4
                  simp only [List.foldl, List.setIfInBounds_toArray, List.set_cons_succ, List.set_cons_zero]
                  have hbw := b3 H13.out KB.out B13.out hb
                  have hh : HashAt u n13 p0 := ⟨m_5, PL.out⟩
                  have HBW := Bx.mk hbw; have HHA := Bx.mk hh
                  clear hb hbw hsn o_5 m_5 hh
                  go_wp2_with fail
                  go_meet
                  case rel =>
                    refine ⟨ad2, cap - 1, p0, r, _, rfl, HC.out, by rw [HLR.out], ?_, HHA.out, HBW.out.2⟩
                    refine (HHS.out.below HBW.out.1).tail (B := Ba) (off := off) (fun _ => rfl) ad2 (fun hr => ?_)
                    rcases HAD.out with ⟨h1, h2⟩ | ⟨h1, h2⟩
                    · exfalso
                      have := List.length_pos_iff.2 hr
                      have := L4.out; have := HLR.out
                      omega
                    · exact h2
          case rest =>
          obtain ⟨ad', cap', f, r, wv, rfl, hcs, rfl, hHr, hx13, hb⟩ := hcut
          have hok : conOk before after ds ps = (r.length == ds.length && (climbO nd f ds r == before && climb nd f ds r == after)) := by unfold conOk; rw [hcs]
          have HOK := Bx.mk hok; have HR := Bx.mk hHr; have Y13 := Bx.mk hx13; have BC := Bx.mk hb
          have FL := Bx.mk hx13.2
          clear hok hHr hx13 hb hcs HWZ
          go_upto_region 17 with (first
            | (guard_target =~ wpList _ _ _ (⟨some 67, _, _, _, _, _⟩ :: _) _ _; refine wpList_load_row rfl 24 (.tmp 13) rfl n13 rfl _ _ _ _ Y13.out.1 underH rfl (hszL FL.out) ?_)
            | (guard_target =~ wpList _ _ _ (⟨some 68, _, _, _, _, _⟩ :: _) _ _; refine wpList_load_row rfl 24 (.tmp 13) rfl n13 rfl _ _ _ _ Y13.out.1 underH rfl (hszL FL.out) ?_)
            | (guard_target =~ wpList _ _ _ (⟨some 69, _, _, _, _, _⟩ :: _) _ _; refine wpList_build_two rfl (.tmp 67) (.tmp 68) rfl f f FL.out FL.out rfl rfl ?_)
            | (guard_target =~ wpList _ _ _ (⟨none, _, _, _, _, _⟩ :: _) _ _; refine wpList_store_row rfl 76 (.tmp 14) (.tmp 69) rfl wv.heap.size (ocells f ++ ocells f) rfl rfl _ (ocells (List.replicate 64 0)) (heap_alloc_new _ _) (szTwo' FL.out FL.out) (by rw [Array.size_append, ocells_size, ocells_size, FL.out]; rfl) (two_one _ _) ?_; rw [setRow_alloc_new _ _ _ _ _ rfl]))
          have tw := Two.new (heap_alloc_new wv (.cells (ocells f ++ ocells f) 76)) FL.out FL.out
          have b14 := er_al (Below.refl wv.heap.size wv) (.cells (ocells f ++ ocells f) 76)
          have hge := BC.out.size
          generalize wv.alloc (.cells (ocells f ++ ocells f) 76) = W2 at tw b14 ⊢
          obtain ⟨n14, h14⟩ : ∃ n, n = wv.heap.size := ⟨_, rfl⟩
          rw [← h14] at tw ⊢
          have H14 : Bx (n14 = wv.heap.size) := ⟨h14⟩
          have TW := Bx.mk tw; have B14 := Bx.mk (show Below n14 wv W2 from h14 ▸ b14); have HG := Bx.mk (show W.heap.size ≤ n14 from h14 ▸ hge)
          have kw : ∀ u, Below n14 wv u → Below w.heap.size w u := fun u h => KB.out.trans ((BC.out.trans (h.mono HG.out)).mono KB.out.size)
          have KW := Bx.mk kw
          have hlr := HR.out.len
          obtain ⟨_, _, e2, k1, k2⟩ := hlr
          have K1 := Bx.mk k1; have K2 := Bx.mk k2
          have kr : ∀ u, Below n14 wv u → Hss u (.slice ad' r.length cap') r := fun u h => HR.out.below (H14.out ▸ h)
          have KR := Bx.mk kr
          clear tw b14 hge h14 e2 k1 k2 kw kr
          go_upto_block 66 with (fail)
          go_loopw [11, 12, 16, 72] (fun ii ll _ cc wr => ∃ (t p' q' : Nat) (taken : List Bool), t ≤ r.length ∧ p' < 18446744073709551616 ∧ q' < 18446744073709551616 ∧ ii = .int .u64 (p' : Int) ∧ ll = .int .u64 (q' : Int) ∧ cc = .int .i64 (t : Int) ∧ taken.length = t ∧ ds = taken ++ dirs p' q' ∧
              Two wr n14 (climbO nd f taken (r.take t)) (climb nd f taken (r.take t)) ∧ Below n14 wv wr) (fun _ _ _ cc _ => r.length - (intOf cc).toNat)
          case atStart => exact ⟨0, p, q, [], Nat.zero_le _, hp, hq, rfl, rfl, rfl, rfl, HD.out.symm, TW.out, B14.out⟩
          case round =>
            obtain ⟨t, p', q', taken, ht, hp', hq', rfl, rfl, rfl, htl, hd, hT1, hB1⟩ := hrel
            have HTL := Bx.mk htl; have HD1 := Bx.mk hd; have T1 := Bx.mk hT1; have B1 := Bx.mk hB1
            clear htl hd hT1 hB1 TW B14
            have c0l := T1.out.la; have c1l := T1.out.lb
            have snO := fun (px : List UInt8) (hlt : t < r.length) (hpx : px = r[t]) d => show climbO nd f (taken ++ [d]) (r.take (t + 1)) = _ by rw [List.take_succ_eq_append_getElem hlt, climbO_snoc nd taken (r.take t) (by rw [HTL.out]; simp; omega) f d r[t], ← hpx]
            have snC := fun (px : List UInt8) (hlt : t < r.length) (hpx : px = r[t]) d => show climb nd f (taken ++ [d]) (r.take (t + 1)) = _ by rw [List.take_succ_eq_append_getElem hlt, climb_snoc nd taken (r.take t) (by rw [HTL.out]; simp; omega) f d r[t], ← hpx]
            by_cases hlt : t < r.length
            · obtain ⟨_, hc1, hc2, Ba, off, rfl, hBl, hr, hpl⟩ := (KR.out _ B1.out).at t hlt
              obtain ⟨px, hpx⟩ : ∃ px, px = r[t] := ⟨_, rfl⟩
              have snO := snO px hlt hpx; have snC := snC px hlt hpx
              rw [← hpx] at hr hpl
              generalize climbO nd f taken (r.take t) = c0 at T1 snO c0l
              generalize climb nd f taken (r.take t) = c1 at T1 snC c1l
              have R1 := Bx.mk hr; have PX := Bx.mk hpl; have BLT := Bx.mk hBl; have SNO := Bx.mk snO; have SNC := Bx.mk snC; have C0L := Bx.mk c0l; have C1L := Bx.mk c1l
              clear hr hpl hBl snO snC c0l c1l hpx
              by_cases hq0 : q' = 0
              · have hc : conOk before after ds ps = false := by
                  rw [HOK.out, HD1.out, hq0, dirs_zero, List.append_nil, HTL.out, show (r.length == t) = false from beq_eq_false_iff_ne.2 (by omega), Bool.false_and]
                have hv := HNV.out _ hc
                have HV := Bx.mk hv
                subst hq0
                clear hc hv
                go_upto_region 20 with (first
                  | (guard_target =~ wpList _ _ _ (⟨some 75, _, _, _, _, _⟩ :: _) _ _; refine wpList_load_mid rfl 24 (.tmp 74) rfl Ba (off + t * 32) rfl (bcells px) _ R1.out underH rfl (hszB' PX.out) ?_)
                  | (guard_target =~ wpList _ _ _ (⟨none, _, _, _, _, _⟩ :: _) _ _; refine wpList_store_row rfl 24 (.tmp 16) (.tmp 75) rfl wr.heap.size (ocells px) rfl rfl _ zeros32 (heap_alloc_new _ _) (hszL PX.out) (hsoL PX.out) (ocells_one _) ?_; rw [setRow_alloc_new _ _ _ _ _ rfl]))
                have x16 := HashAt.new wr px PX.out
                have b16 := er_al (Below.refl wr.heap.size wr) (.cells (ocells px) 24)
                have t2 := T1.out.below b16
                have hne := T1.out.lt
                have bw2 := B1.out.trans (b16.mono (Nat.le_of_lt hne))
                generalize wr.alloc (.cells (ocells px) 24) = w2 at x16 t2 bw2 ⊢
                clear b16
                generalize wr.heap.size = n16 at x16 hne ⊢
                have X16 := Bx.mk x16; have T2 := Bx.mk t2; have BW2 := Bx.mk bw2
                clear x16 t2 bw2
                have gE : w2.cell? ⟨1, 0, none⟩ = some (.iface 144 (.pointer (some (A 9)))) := (HH.out.below (KW.out _ BW2.out)).err.glob 9 (by decide)
                go_wp2_with fail
                go_ret
                exact ⟨by rw [HV.out]; rfl, KW.out _ BW2.out⟩

              · have hq0' : ¬ (q' : Int) = 0 := by omega
                have hq0'' : ((q' : Int) == 0) = false := by simpa using hq0
                have HQ0 := Bx.mk hq0
                clear hq0
                go_upto_region 20 with (first
                  | (guard_target =~ wpList _ _ _ (⟨some 75, _, _, _, _, _⟩ :: _) _ _; refine wpList_load_mid rfl 24 (.tmp 74) rfl Ba (off + t * 32) rfl (bcells px) _ R1.out underH rfl (hszB' PX.out) ?_)
                  | (guard_target =~ wpList _ _ _ (⟨none, _, _, _, _, _⟩ :: _) _ _; refine wpList_store_row rfl 24 (.tmp 16) (.tmp 75) rfl wr.heap.size (ocells px) rfl rfl _ zeros32 (heap_alloc_new _ _) (hszL PX.out) (hsoL PX.out) (ocells_one _) ?_; rw [setRow_alloc_new _ _ _ _ _ rfl]))
                have x16 := HashAt.new wr px PX.out
                have b16 := er_al (Below.refl wr.heap.size wr) (.cells (ocells px) 24)
                have t2 := T1.out.below b16
                have hne := T1.out.lt
                have bw2 := B1.out.trans (b16.mono (Nat.le_of_lt hne))
                generalize wr.alloc (.cells (ocells px) 24) = w2 at x16 t2 bw2 ⊢
                clear b16
                generalize wr.heap.size = n16 at x16 hne ⊢
                have X16 := Bx.mk x16; have T2 := Bx.mk t2; have BW2 := Bx.mk bw2
                clear x16 t2 bw2

                have hle := upN_le p' q'
                have hu := fun u => up_any u p' q' hp' hq'
                generalize hup : upN p' q' = uu at hle hu
                have HUP := Bx.mk hup; have HU := Bx.mk hu; clear hup hu
                have ha := and_one p' hp'
                have rnd : ∀ d p1 q1 w3 a b, Two w3 n14 a b → (a = if d = true then nd px c0 else c0) → b = climb1 nd d c1 px → dirs p' q' = d :: dirs p1 q1 → Two w3 n14 (climbO nd f (taken ++ [d]) (r.take (t + 1))) (climb nd f (taken ++ [d]) (r.take (t + 1))) ∧ ds = (taken ++ [d]) ++ dirs p1 q1 ∧ (taken ++ [d]).length = t + 1 := fun d p1 q1 w3 a b h1 h2 h3 h4 =>
                  ⟨by rw [SNO.out, SNC.out, ← h2, ← h3]; exact h1, by rw [HD1.out, h4]; simp, by rw [List.length_append, HTL.out]; rfl⟩
                have RND := Bx.mk rnd; clear rnd
                by_cases hcase : p' % 2 = 1 ∨ p' = q'
                · have hd := dirs_true HQ0.out hcase
                  rw [HUP.out] at hd
                  have HD2 := Bx.mk hd; clear hd
                  have nd0 := fun u hu => node_any u px c0 PX.out C0L.out hu
                  have nd1 := fun u hu => node_any u px c1 PX.out C1L.out hu
                  rw [hv_agg, hv_agg, hv_agg, show sha (1 :: (px ++ c0)) = nd px c0 from rfl] at nd0
                  rw [hv_agg, hv_agg, hv_agg, show sha (1 :: (px ++ c1)) = nd px c1 from rfl] at nd1
                  have ND0 := Bx.mk nd0; have ND1 := Bx.mk nd1; clear nd0 nd1
                  by_cases hodd : p' % 2 = 1
                  · rw [hodd] at ha
                    clear hcase hodd
                    go_wp2_with (first
                      | (guard_target =~ wpList _ _ _ (⟨some 87, _, _, _, _, _⟩ :: _) _ _; refine wpList_load_row rfl 24 (.tmp 16) rfl n16 rfl _ _ _ _ X16.out.1 underH rfl (hszL PX.out) ?_)
                      | (guard_target =~ wpList _ _ _ (⟨some 89, _, _, _, _, _⟩ :: _) _ _; refine wpList_load_mid rfl 24 (.tmp 88) rfl n14 0 rfl (bcells c0) _ T2.out.one underH rfl (hszB' T2.out.la) ?_))
                    refine (ND0.out w2 (HH.out.below (KW.out _ BW2.out)).tab).mono ?_
                    rintro e w3 ⟨rfl, hb⟩
                    have T3 := Bx.mk (T2.out.below hb); have X163 := Bx.mk (X16.out.below hb); have BW3 := Bx.mk (BW2.out.trans (hb.mono (Nat.le_trans (Nat.le_of_lt T2.out.lt) (Nat.le_refl _))))
                    clear hb
                    go_upto_region 24 with (guard_target =~ wpList _ _ _ (⟨none, _, _, _, _, _⟩ :: _) _ _; refine wpList_store_mid rfl 24 (.tmp 91) (.tmp 90) rfl n14 0 (ocells (nd px c0)) rfl rfl (T3.out.at0 (nd_length _ _)) (hszL (nd_length _ _)) (ocells_one _) ?_)
                    have t4 := T3.out.set0 (nd_length px c0)
                    have x4 : HashAt (w3.setCells n14 0 (ocells (nd px c0)).toList) n16 px := ⟨(World.heap_setCells_other' _ _ _ _ _ (by omega)).trans X163.out.1, PX.out⟩
                    have b4 := below_setCells (Nat.le_refl n14) (ocells (nd px c0)).toList 0 w3 BW3.out
                    generalize w3.setCells n14 0 (ocells (nd px c0)).toList = w4 at t4 x4 b4 ⊢
                    have T4 := Bx.mk t4; have X164 := Bx.mk x4; have BW4 := Bx.mk b4
                    clear t4 x4 b4
                    go_wp2_with (first
                      | (guard_target =~ wpList _ _ _ (⟨some 92, _, _, _, _, _⟩ :: _) _ _; refine wpList_load_row rfl 24 (.tmp 16) rfl n16 rfl _ _ _ _ X164.out.1 underH rfl (hszL PX.out) ?_)
                      | (guard_target =~ wpList _ _ _ (⟨some 94, _, _, _, _, _⟩ :: _) _ _; refine wpList_load_mid rfl 24 (.tmp 93) rfl n14 32 rfl (bcells c1) _ T4.out.two underH rfl (hszB' T4.out.lb) ?_))
                    refine (ND1.out w4 (HH.out.below (KW.out _ BW4.out)).tab).mono ?_
                    rintro e w5 ⟨rfl, hb⟩
                    have T5 := Bx.mk (T4.out.below hb); have BW5 := Bx.mk (BW4.out.trans (hb.mono (Nat.le_of_lt T4.out.lt)))
                    clear hb
                    go_upto_region 25 with (guard_target =~ wpList _ _ _ (⟨none, _, _, _, _, _⟩ :: _) _ _; refine wpList_store_mid rfl 24 (.tmp 96) (.tmp 95) rfl n14 32 (ocells (nd px c1)) rfl rfl (T5.out.at1 (nd_length _ _)) (hszL (nd_length _ _)) (ocells_one _) ?_)
                    have t6 := T5.out.set1 (nd_length px c1)
                    have b6 := below_setCells (Nat.le_refl n14) (ocells (nd px c1)).toList 32 w5 BW5.out
                    generalize w5.setCells n14 32 (ocells (nd px c1)).toList = w6 at t6 b6 ⊢
                    have T6 := Bx.mk t6; have BW6 := Bx.mk b6
                    clear t6 b6
                    go_wp2_with fail
                    refine (HU.out _).mono ?_
                    rintro e w7 ⟨rfl, rfl⟩
                    go_wp2_with fail
                    go_roundw
                    case rel =>
                      have R := RND.out true (uu.1 / 2) (uu.2 / 2) _ _ _ T6.out rfl rfl HD2.out
                      exact ⟨t + 1, uu.1 / 2, uu.2 / 2, taken ++ [true], hlt, by omega, by omega, by go_num, by go_num, by go_num, R.2.2, R.2.1, R.1, BW6.out⟩
                    case measure => simp [intOf]; omega

                  · have hpq : p' = q' := by omega
                    rw [show p' % 2 = 0 by omega] at ha
                    clear hcase hodd
                    subst hpq
                    go_wp2_with (first
                      | (guard_target =~ wpList _ _ _ (⟨some 87, _, _, _, _, _⟩ :: _) _ _; refine wpList_load_row rfl 24 (.tmp 16) rfl n16 rfl _ _ _ _ X16.out.1 underH rfl (hszL PX.out) ?_)
                      | (guard_target =~ wpList _ _ _ (⟨some 89, _, _, _, _, _⟩ :: _) _ _; refine wpList_load_mid rfl 24 (.tmp 88) rfl n14 0 rfl (bcells c0) _ T2.out.one underH rfl (hszB' T2.out.la) ?_))
                    refine (ND0.out w2 (HH.out.below (KW.out _ BW2.out)).tab).mono ?_
                    rintro e w3 ⟨rfl, hb⟩
                    have T3 := Bx.mk (T2.out.below hb); have X163 := Bx.mk (X16.out.below hb); have BW3 := Bx.mk (BW2.out.trans (hb.mono (Nat.le_trans (Nat.le_of_lt T2.out.lt) (Nat.le_refl _))))
                    clear hb
                    go_upto_region 24 with (guard_target =~ wpList _ _ _ (⟨none, _, _, _, _, _⟩ :: _) _ _; refine wpList_store_mid rfl 24 (.tmp 91) (.tmp 90) rfl n14 0 (ocells (nd px c0)) rfl rfl (T3.out.at0 (nd_length _ _)) (hszL (nd_length _ _)) (ocells_one _) ?_)
                    have t4 := T3.out.set0 (nd_length px c0)
                    have x4 : HashAt (w3.setCells n14 0 (ocells (nd px c0)).toList) n16 px := ⟨(World.heap_setCells_other' _ _ _ _ _ (by omega)).trans X163.out.1, PX.out⟩
                    have b4 := below_setCells (Nat.le_refl n14) (ocells (nd px c0)).toList 0 w3 BW3.out
                    generalize w3.setCells n14 0 (ocells (nd px c0)).toList = w4 at t4 x4 b4 ⊢
                    have T4 := Bx.mk t4; have X164 := Bx.mk x4; have BW4 := Bx.mk b4
                    clear t4 x4 b4
                    go_wp2_with (first
                      | (guard_target =~ wpList _ _ _ (⟨some 92, _, _, _, _, _⟩ :: _) _ _; refine wpList_load_row rfl 24 (.tmp 16) rfl n16 rfl _ _ _ _ X164.out.1 underH rfl (hszL PX.out) ?_)
                      | (guard_target =~ wpList _ _ _ (⟨some 94, _, _, _, _, _⟩ :: _) _ _; refine wpList_load_mid rfl 24 (.tmp 93) rfl n14 32 rfl (bcells c1) _ T4.out.two underH rfl (hszB' T4.out.lb) ?_))
                    refine (ND1.out w4 (HH.out.below (KW.out _ BW4.out)).tab).mono ?_
                    rintro e w5 ⟨rfl, hb⟩
                    have T5 := Bx.mk (T4.out.below hb); have BW5 := Bx.mk (BW4.out.trans (hb.mono (Nat.le_of_lt T4.out.lt)))
                    clear hb
                    go_upto_region 25 with (guard_target =~ wpList _ _ _ (⟨none, _, _, _, _, _⟩ :: _) _ _; refine wpList_store_mid rfl 24 (.tmp 96) (.tmp 95) rfl n14 32 (ocells (nd px c1)) rfl rfl (T5.out.at1 (nd_length _ _)) (hszL (nd_length _ _)) (ocells_one _) ?_)
                    have t6 := T5.out.set1 (nd_length px c1)
                    have b6 := below_setCells (Nat.le_refl n14) (ocells (nd px c1)).toList 32 w5 BW5.out
                    generalize w5.setCells n14 32 (ocells (nd px c1)).toList = w6 at t6 b6 ⊢
                    have T6 := Bx.mk t6; have BW6 := Bx.mk b6
                    clear t6 b6
                    go_wp2_with fail
                    refine (HU.out _).mono ?_
                    rintro e w7 ⟨rfl, rfl⟩
                    go_wp2_with fail
                    go_roundw
                    case rel =>
                      have R := RND.out true (uu.1 / 2) (uu.2 / 2) _ _ _ T6.out rfl rfl HD2.out
                      exact ⟨t + 1, uu.1 / 2, uu.2 / 2, taken ++ [true], hlt, by omega, by omega, by go_num, by go_num, by go_num, R.2.2, R.2.1, R.1, BW6.out⟩
                    case measure => simp [intOf]; omega

                · have hd := dirs_false HQ0.out hcase
                  have HD2 := Bx.mk hd
                  have nda := fun u hu => node_any u c1 px C1L.out PX.out hu
                  rw [hv_agg, hv_agg, hv_agg, show sha (1 :: (c1 ++ px)) = nd c1 px from rfl] at nda
                  have NDA := Bx.mk nda
                  rw [show p' % 2 = 0 by omega] at ha
                  have hpq' : ¬ (p' : Int) = (q' : Int) := by omega
                  have hpq'' : ((p' : Int) == (q' : Int)) = false := by simp; omega
                  clear hd nda hcase
                  go_wp2_with (first
                    | (guard_target =~ wpList _ _ _ (⟨some 104, _, _, _, _, _⟩ :: _) _ _; refine wpList_load_mid rfl 24 (.tmp 103) rfl n14 32 rfl (bcells c1) _ T2.out.two underH rfl (hszB' T2.out.lb) ?_)
                    | (guard_target =~ wpList _ _ _ (⟨some 105, _, _, _, _, _⟩ :: _) _ _; refine wpList_load_row rfl 24 (.tmp 16) rfl n16 rfl _ _ _ _ X16.out.1 underH rfl (hszL PX.out) ?_))
                  refine (NDA.out w2 (HH.out.below (KW.out _ BW2.out)).tab).mono ?_
                  rintro e w3 ⟨rfl, hb⟩
                  have T3 := Bx.mk (T2.out.below hb); have BW3 := Bx.mk (BW2.out.trans (hb.mono (Nat.le_of_lt T2.out.lt)))
                  clear hb
                  go_upto_region 27 with (guard_target =~ wpList _ _ _ (⟨none, _, _, _, _, _⟩ :: _) _ _; refine wpList_store_mid rfl 24 (.tmp 107) (.tmp 106) rfl n14 32 (ocells (nd c1 px)) rfl rfl (T3.out.at1 (nd_length _ _)) (hszL (nd_length _ _)) (ocells_one _) ?_)
                  have t6 := T3.out.set1 (nd_length c1 px)
                  have b6 := below_setCells (Nat.le_refl n14) (ocells (nd c1 px)).toList 32 w3 BW3.out
                  generalize w3.setCells n14 32 (ocells (nd c1 px)).toList = w6 at t6 b6 ⊢
                  have T6 := Bx.mk t6; have BW6 := Bx.mk b6
                  clear t6 b6 ha hpq' hpq''
                  go_wp2_with fail
                  go_roundw
                  case rel =>
                    have R := RND.out false (p' / 2) (q' / 2) _ _ _ T6.out rfl rfl HD2.out
                    exact ⟨t + 1, p' / 2, q' / 2, taken ++ [false], hlt, by omega, by omega, by go_num, by go_num, by go_num, R.2.2, R.2.1, R.1, BW6.out⟩
                  case measure => simp [intOf]; omega
            · obtain rfl : t = r.length := by omega
              rw [List.take_length] at T1 c0l c1l
              clear snO snC hlt ht
              by_cases hq0 : q' = 0
              · have hdt : ds = taken := by rw [HD1.out, hq0, dirs_zero, List.append_nil]
                have hc : conOk before after ds ps = (climbO nd f taken r == before && climb nd f taken r == after) := by
                  rw [HOK.out, hdt, HTL.out]; simp
                have hv := HNV.out _ hc
                generalize climbO nd f taken r = c0 at T1 c0l hv
                generalize climb nd f taken r = c1 at T1 c1l hv
                have nq := fun u => neq_two u c0 c1 before after c0l c1l BL.out AL.out
                generalize (c0 == before && c1 == after) = bb at nq hv
                have HV := Bx.mk hv
                have x0' := X0.out.below ((BC.out.trans (B1.out.mono HG.out)))
                have x1' := X1.out.below ((BC.out.trans (B1.out.mono HG.out)))
                have X0' := Bx.mk x0'; have X1' := Bx.mk x1'
                subst hq0
                clear hc hdt hv c0l c1l x0' x1'
                cases bb
                · have gE : wr.cell? ⟨1, 0, none⟩ = some (.iface 144 (.pointer (some (A 9)))) := (HH.out.below (KW.out _ B1.out)).err.glob 9 (by decide)
                  go_wp2_with (first
                    | (guard_target =~ wpList _ _ _ (⟨some 116, _, _, _, _, _⟩ :: _) _ _; refine wpList_load_mid_w rfl 76 (.tmp 14) rfl n14 0 rfl (bcells c0 ++ bcells c1) _ T1.out.all under2 rfl (szTwo T1.out.la T1.out.lb) ?_; rw [two_cells])
                    | (guard_target =~ wpList _ _ _ (⟨some 117, _, _, _, _, _⟩ :: _) _ _; refine wpList_load_row_w rfl 24 (.tmp 7) rfl N rfl _ _ _ _ X0'.out.1 underH rfl (hszL BL.out) ?_)
                    | (guard_target =~ wpList _ _ _ (⟨some 118, _, _, _, _, _⟩ :: _) _ _; refine wpList_load_row_w rfl 24 (.tmp 8) rfl (N + 1) rfl _ _ _ _ X1'.out.1 underH rfl (hszL AL.out) ?_)
                    | (guard_target =~ wpList _ _ _ (⟨some 119, _, _, _, _, _⟩ :: _) _ _; refine wpList_build_two rfl (.tmp 117) (.tmp 118) rfl before after BL.out AL.out rfl rfl ?_))
                  go_ret
                  exact ⟨by rw [HV.out]; rfl, KW.out _ B1.out⟩
                · go_wp2_with (first
                    | (guard_target =~ wpList _ _ _ (⟨some 116, _, _, _, _, _⟩ :: _) _ _; refine wpList_load_mid_w rfl 76 (.tmp 14) rfl n14 0 rfl (bcells c0 ++ bcells c1) _ T1.out.all under2 rfl (szTwo T1.out.la T1.out.lb) ?_; rw [two_cells])
                    | (guard_target =~ wpList _ _ _ (⟨some 117, _, _, _, _, _⟩ :: _) _ _; refine wpList_load_row_w rfl 24 (.tmp 7) rfl N rfl _ _ _ _ X0'.out.1 underH rfl (hszL BL.out) ?_)
                    | (guard_target =~ wpList _ _ _ (⟨some 118, _, _, _, _, _⟩ :: _) _ _; refine wpList_load_row_w rfl 24 (.tmp 8) rfl (N + 1) rfl _ _ _ _ X1'.out.1 underH rfl (hszL AL.out) ?_)
                    | (guard_target =~ wpList _ _ _ (⟨some 119, _, _, _, _, _⟩ :: _) _ _; refine wpList_build_two rfl (.tmp 117) (.tmp 118) rfl before after BL.out AL.out rfl rfl ?_))
                  go_ret
                  exact ⟨by rw [HV.out]; rfl, KW.out _ B1.out⟩
              · have hc : conOk before after ds ps = false := by
                  have : (dirs p' q').length ≠ 0 := by
                    rw [dirs, dif_neg hq0]; split <;> simp
                  rw [HOK.out, HD1.out, show (r.length == (taken ++ dirs p' q').length) = false from beq_eq_false_iff_ne.2 (by rw [List.length_append, HTL.out]; omega), Bool.false_and]
                have hv := HNV.out _ hc
                have HV := Bx.mk hv
                have hq0' : ¬ (q' : Int) = 0 := by omega
                have hq0'' : ((q' : Int) == 0) = false := by simpa using hq0
                clear hc hv c0l c1l hq0
                have gE : wr.cell? ⟨1, 0, none⟩ = some (.iface 144 (.pointer (some (A 9)))) := (HH.out.below (KW.out _ B1.out)).err.glob 9 (by decide)
                go_wp2_with fail
                go_ret
                exact ⟨by rw [HV.out]; rfl, KW.out _ B1.out⟩

end Go.Proofs.YtmlpldkgennmkaaDoor
