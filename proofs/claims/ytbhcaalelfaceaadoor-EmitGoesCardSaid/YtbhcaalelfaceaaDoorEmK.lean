/- cartularylaw10.EmitFolds walked. -/
import Derived.Test.YtbhcaalelfaceaaDoorEmG
import Derived.Test.YtbhcaalelfaceaaDoorEmI
import Derived.Test.YtbhcaalelfaceaaDoorRowN
import Derived.Test.YtbhcaalelfaceaaDoorBey
namespace Go.Proofs.YtbhcaalelfaceaaDoor
set_option maxRecDepth 100000
open Go.RowKit
set_option maxHeartbeats 800000 in
/-- Add of a builder that has all the leaves that may be -/
theorem add_limit (A : Nat → Addr) (base : Nat) (w : World) (b : Nat) (ls : List (List UInt8)) (s : Value) (hB : BuP base w b 9223372036854775808 ls s) (p : List UInt8) (hE : Errs w A) :
    Calls Tryd.prog 10 #[.pointer (some ⟨b, 0, none⟩), hv p] w fun e w' => e = .returned (.tuple #[.slice none 0 0, .iface 124 (.pointer (some (A 3)))]) ∧ Below w.heap.size w w' := by
  have kb := er_al (Below.refl w.heap.size w) (.cells (ocells p) 33)
  have gE : (w.alloc (.cells (ocells p) 33)).cell? ⟨1, 0, none⟩ = some (.iface 124 (.pointer (some (A 3)))) := (hE.below kb).glob 3 (by decide)
  have c0 := cell_at (hB.below kb).hb 0 _ rfl
  have c1 := cell_at (hB.below kb).hb 1 _ rfl
  clear hB hE
  unfold hv
  go_enter Tryd.func10, Tryd.ntmps10
  go_upto_region 1 with (fail)
  change Code.wp _ _ _ _ (w.alloc (.cells (ocells p) 33))
  generalize w.alloc (.cells (ocells p) 33) = W at kb gE c0 c1 ⊢
  go_wp2_with fail
  go_quiet (fail)
  go_wp2_with fail
  go_ret2
  exact ⟨rfl, below_drewN kb _⟩
theorem upB_lastK {l : List (List UInt8)} {K : Nat} (h : K + 1 = l.length) : upB (l.drop K) = l[K]'(by omega) := by
  rw [List.drop_eq_getElem_cons (by omega), List.drop_of_length_le (by omega)]; rfl
theorem bhss_any (base : Nat) (w : World) (b n : Nat) (ls : List (List UInt8)) (s : Value) (l : Nat) (hl : l = ls.length) (h : BuP base w b n ls s) (hm : l ≤ 1099511627776) (B0 : Nat) (hB0 : B0 ≤ w.heap.size) :
    Calls Tryd.prog 13 #[.pointer (some ⟨b, 0, none⟩)] w fun e w' => ∃ v, e = .returned v ∧ (w'.ownsRow B0 33 32 v l (hcells ls) ∧ ∀ k, v.ownBlock = some k → w.heap.size ≤ k) ∧ Below w.heap.size w w' := by
  subst hl
  exact (bhashes_any base w b n ls s h hm).mono fun e w' ⟨v, h1, h2, h3⟩ => ⟨v, h1, ⟨ownsRow_mono h2 hB0, fun k hk => ownsRow_fresh h2 k hk⟩, h3⟩
def VK10 (E0 : List UInt8) (oi : Nat) (v : Value) (own : Nat → Option Nat) (w : World) : Prop :=
  match oi with
  | 0 => v = .agg (ocells (E0))
  | 1 => AllocV own w v 2 33 32
  | 2 => StoredV own w 2 33 (ocells (E0))
  | _ => True
def VK10mk : Nat → Option Nat := fun j => match j with | 2 => some 1 | _ => none
theorem VK10_mono (E0 : List UInt8) (oi oj : Nat) (v : Value) (own : Nat → Option Nat) (w : World) (own' : Nat → Option Nat) (w' : World) (hij : oi ≠ oj)   (h : VK10 E0 oj v own w) (r : Rel VK10mk oi own w own' w') : VK10 E0 oj v own' w' := by
  unfold VK10 at h ⊢
  split at h
  · exact h
  · exact h.stable r rfl hij
  · exact h.stable r hij
  · trivial

def VK15 (K l _n _b g9 cap B2 off : Nat) (x _y : List UInt8) (oi : Nat) (v : Value) (own : Nat → Option Nat) (w : World) : Prop :=
  match oi with
  | 0 => v = .slice (some ⟨B2, off, none⟩) l cap
  | 1 => v = .int .i64 (K : Int)
  | 2 => v = .pointer (some ⟨B2, off + K * 32, none⟩)
  | 3 => v = .agg (ocells (x))
  | 4 => OutV own w (g9) 4 33 (ocells (x))
  | _ => True
def VK15mk : Nat → Option Nat := fun _ => none
theorem VK15_mono (K l n b g9 cap B2 off : Nat) (x y : List UInt8) (oi oj : Nat) (v : Value) (own : Nat → Option Nat) (w : World) (own' : Nat → Option Nat) (w' : World) (hij : oi ≠ oj)   (h : VK15 K l n b g9 cap B2 off x y oj v own w) (r : Rel VK15mk oi own w own' w') : VK15 K l n b g9 cap B2 off x y oj v own' w' := by
  unfold VK15 at h ⊢
  split at h
  · exact h
  · exact h
  · exact h
  · exact h
  · exact h.stable r hij
  · trivial

def VK16 (K l _n _b g9 cap B2 off : Nat) (x y z : List UInt8) (oi : Nat) (v : Value) (own : Nat → Option Nat) (w : World) : Prop :=
  match oi with
  | 0 => v = .slice (some ⟨B2, off, none⟩) l cap
  | 1 => v = .int .i64 (K : Int)
  | 2 => v = .pointer (some ⟨B2, off + K * 32, none⟩)
  | 3 => v = .agg (ocells (x))
  | 4 => v = .agg (ocells (y))
  | 5 => v = .agg (ocells (z))
  | 6 => OutV own w (g9) 6 33 (ocells (z))
  | _ => True
def VK16mk : Nat → Option Nat := fun _ => none
theorem VK16_mono (K l n b g9 cap B2 off : Nat) (x y z : List UInt8) (oi oj : Nat) (v : Value) (own : Nat → Option Nat) (w : World) (own' : Nat → Option Nat) (w' : World) (hij : oi ≠ oj)   (h : VK16 K l n b g9 cap B2 off x y z oj v own w) (r : Rel VK16mk oi own w own' w') : VK16 K l n b g9 cap B2 off x y z oj v own' w' := by
  unfold VK16 at h ⊢
  split at h
  · exact h
  · exact h
  · exact h
  · exact h
  · exact h
  · exact h
  · exact h.stable r hij
  · trivial

def VK17 (n b _g9 l cap : Nat) (ad : Option Addr) (hs : List (List UInt8)) (R : List UInt8) (oi : Nat) (v : Value) (own : Nat → Option Nat) (w : World) : Prop :=
  match oi with
  | 0 => v = .pointer (some ⟨b, 0, none⟩)
  | 1 => v = .agg (ocells (R))
  | 2 => v = .agg (ocells (R))
  | 3 => v = .bool false
  | 4 => v = .bool false
  | 5 => v = .pointer (some ⟨b, 0, none⟩)
  | 6 => v = .int .u64 (n : Int)
  | 7 => v = .int .u64 (n : Int)
  | 8 => v = .bool false
  | 9 => v = .bool false
  | 10 => v = .bool false
  | 11 => v = .pointer (some ⟨b, 0, none⟩)
  | 12 => RowN own w v 0 33 32 l (hcells hs)
  | 13 => v = .slice ad l cap
  | 14 => v = .bool true
  | 15 => v = .bool false
  | 16 => v = .bool false
  | _ => True
def VK17mk : Nat → Option Nat := fun _ => none
theorem VK17_mono (n b g9 l cap : Nat) (ad : Option Addr) (hs : List (List UInt8)) (R : List UInt8) (oi oj : Nat) (v : Value) (own : Nat → Option Nat) (w : World) (own' : Nat → Option Nat) (w' : World) (hij : oi ≠ oj)   (h : VK17 n b g9 l cap ad hs R oj v own w) (r : Rel VK17mk oi own w own' w') : VK17 n b g9 l cap ad hs R oj v own' w' := by
  unfold VK17 at h ⊢
  split at h
  · exact h
  · exact h
  · exact h
  · exact h
  · exact h
  · exact h
  · exact h
  · exact h
  · exact h
  · exact h
  · exact h
  · exact h
  · exact h.stable r
  · exact h
  · exact h
  · exact h
  · exact h
  · trivial

def VK21 (A : Nat → Addr) (n b _g9 : Nat) (R : List UInt8) (oi : Nat) (v : Value) (_own : Nat → Option Nat) (_w : World) : Prop :=
  match oi with
  | 0 => v = .iface 124 (.pointer (some (A 3)))
  | 1 => v = .bool true
  | 2 => v = .bool true
  | 3 => v = .slice none 0 0
  | 4 => v = .int .i64 0
  | 5 => v = .bool true
  | 6 => v = .bool true
  | 7 => v = .bool true
  | 8 => v = .pointer (some ⟨b, 0, none⟩)
  | 9 => v = .int .u64 (n : Int)
  | 10 => v = .int .u64 (n : Int)
  | 11 => v = .bool true
  | 12 => v = .bool true
  | 13 => v = .bool true
  | 14 => v = .pointer (some ⟨b, 0, none⟩)
  | 15 => v = .agg (ocells (R))
  | 16 => v = .agg (ocells (R))
  | 17 => v = .bool true
  | 18 => v = .bool true
  | 19 => v = .bool true
  | _ => True
def VK21mk : Nat → Option Nat := fun _ => none
theorem VK21_mono (A : Nat → Addr) (n b g9 : Nat) (R : List UInt8) (oi oj : Nat) (v : Value) (own : Nat → Option Nat) (w : World) (own' : Nat → Option Nat) (w' : World) (hij : oi ≠ oj)   (h : VK21 A n b g9 R oj v own w) (_r : Rel VK21mk oi own w own' w') : VK21 A n b g9 R oj v own' w' := by
  unfold VK21 at h ⊢
  split at h
  · exact h
  · exact h
  · exact h
  · exact h
  · exact h
  · exact h
  · exact h
  · exact h
  · exact h
  · exact h
  · exact h
  · exact h
  · exact h
  · exact h
  · exact h
  · exact h
  · exact h
  · exact h
  · exact h
  · exact h
  · trivial

def VK22 (n b Q c11 : Nat) (a11 : Option Addr) (oi : Nat) (v : Value) (_own : Nat → Option Nat) (_w : World) : Prop :=
  match oi with
  | 0 => v = .nilIface
  | 1 => v = .bool true
  | 2 => v = .bool true
  | 3 => v = .pointer (some ⟨b, 0, none⟩)
  | 4 => v = .int .u64 ((n + 1 : Nat) : Int)
  | 5 => v = .int .u64 (n : Int)
  | 6 => v = .int .u64 ((n + 1 : Nat) : Int)
  | 7 => v = .bool true
  | 8 => v = .bool true
  | 9 => v = .bool true
  | 10 => v = .slice a11 (Q + 1) c11
  | 11 => v = .int .i64 ((Q + 1 : Nat) : Int)
  | 12 => v = .int .u64 (n : Int)
  | 13 => v = .int .i64 (Q : Int)
  | 14 => v = .int .i64 ((Q + 1 : Nat) : Int)
  | 15 => v = .bool true
  | 16 => v = .bool true
  | 17 => v = .bool true
  | _ => True
def VK22mk : Nat → Option Nat := fun _ => none
theorem VK22_mono (n b Q c11 : Nat) (a11 : Option Addr) (oi oj : Nat) (v : Value) (own : Nat → Option Nat) (w : World) (own' : Nat → Option Nat) (w' : World) (hij : oi ≠ oj)   (h : VK22 n b Q c11 a11 oj v own w) (_r : Rel VK22mk oi own w own' w') : VK22 n b Q c11 a11 oj v own' w' := by
  unfold VK22 at h ⊢
  split at h
  · exact h
  · exact h
  · exact h
  · exact h
  · exact h
  · exact h
  · exact h
  · exact h
  · exact h
  · exact h
  · exact h
  · exact h
  · exact h
  · exact h
  · exact h
  · exact h
  · exact h
  · exact h
  · trivial

set_option maxHeartbeats 6400000 in
theorem efolds_any (A : Nat → Addr) (w : World) (n : Nat) (hn : n < 18446744073709551616) (ad : Option Addr) (l cap : Nat) (hs : List (List UInt8)) (hH : Hss w (.slice ad l cap) hs) (p : List UInt8) (hp : p.length = 32) (h : Em A w) : Calls Tryd.prog 5 #[.int .u64 (n : Int), .slice ad l cap, hv p] w fun e w' => e = .returned (.bool true) ∧ Below w.heap.size w w' := by
  have hl : l = hs.length := by obtain ⟨_, _, e, _⟩ := hH.len; cases e; rfl
  have kb := er_al (Below.refl w.heap.size w) (.cells (ocells p) 33)
  have xN := heap_alloc_new w (.cells (ocells p) 33)
  have hE0 := h.below kb
  have hH0 := hH.below kb
  have h32 := hH.1
  unfold hv
  go_enter Tryd.func5, Tryd.ntmps5
  go_upto_region 1 with (fail)
  change Code.wp _ _ _ _ (w.alloc (.cells (ocells p) 33))
  generalize w.alloc (.cells (ocells p) 33) = W0 at kb xN hE0 hH0 ⊢
  obtain ⟨N, hN⟩ : ∃ N, N = w.heap.size := ⟨_, rfl⟩
  rw [← hN] at xN ⊢
  have K0 := Bx.mk kb; have EM0 := Bx.mk hE0; have HS0 := Bx.mk hH0; have XN0 := Bx.mk xN; have PL := Bx.mk hp; have HL := Bx.mk hl; have H32 := Bx.mk h32
  have HA := Bx.mk (alive10_any A W0 hE0)
  clear kb xN hE0 hH0 hp h hN hH hl h32
  go_wp2_with fail
  refine HA.out.mono ?_
  rintro e w2 ⟨rfl, hb⟩
  clear HA
  have K1 := Bx.mk (K0.out.trans (hb.mono K0.out.size)); have EM1 := Bx.mk (EM0.out.below hb); have HS1 := Bx.mk (HS0.out.below hb); have XN1 := Bx.mk ((hb.block _ (Array.getElem?_eq_some_iff.1 XN0.out).1).trans XN0.out)
  clear hb K0 EM0 HS0 XN0
  go_wp2_with fail
  have hbe := beyond_any (w2.alloc (.cells #[.int .i64 (l : Int)] 3)) (.slice (some ⟨w2.heap.size, 0, none⟩) 1 1) [l] (ints_one _ _ _ rfl) (by obtain ⟨_, _, e, h1, h2⟩ := HS1.out.len; cases e; simp; omega)
  refine hbe.mono ?_
  rintro e w3 ⟨rfl, rfl⟩
  clear hbe
  have hb := er_al (Below.refl w2.heap.size w2) (.cells #[.int .i64 (l : Int)] 3)
  generalize w2.alloc (.cells #[.int .i64 (l : Int)] 3) = w3 at hb ⊢
  have K2 := Bx.mk (K1.out.trans (hb.mono K1.out.size)); have EM2 := Bx.mk (EM1.out.below hb); have HS2 := Bx.mk (HS1.out.below hb); have XN2 := Bx.mk ((hb.block _ (Array.getElem?_eq_some_iff.1 XN1.out).1).trans XN1.out)
  clear hb K1 EM1 HS1 XN1
  by_cases hgt : 1048576 < l
  · have e1 : decide (1048576 < [l].sum) = true := by simp [hgt]
    rw [e1]; clear e1
    go_wp2_with fail
    refine (alive10_any A w3 EM2.out).mono ?_
    rintro e w4 ⟨rfl, hb⟩
    go_wp2_with fail
    go_ret
    exact ⟨rfl, K2.out.trans (hb.mono K2.out.size)⟩
  · have e1 : decide (1048576 < [l].sum) = false := decide_eq_false (by simp; omega)
    rw [e1]; clear e1
    have LM := Bx.mk (show l ≤ 1048576 by omega)
    clear hgt
    go_wp2_with fail
    refine (twin_any w3 ad l cap hs HS2.out (by rw [← HL.out]; exact LM.out)).mono ?_
    rintro e w4 ⟨v, rfl, ht, hb⟩
    obtain ⟨ht, B, rfl, -, -⟩ := ht
    rw [← HL.out] at ht ⊢
    have TW0 := Bx.mk ht
    clear ht
    have K3 := Bx.mk (K2.out.trans (hb.mono K2.out.size)); have EM3 := Bx.mk (EM2.out.below hb); have HS3 := Bx.mk (HS2.out.below hb); have XN3 := Bx.mk ((hb.block _ (Array.getElem?_eq_some_iff.1 XN2.out).1).trans XN2.out)
    clear hb K2 EM2 HS2 XN2
    have nl := Bx.mk (load_any A w4 n hn (some ⟨B, 0, none⟩) l (l + 1) hs TW0.out (fun h => by cases h) EM3.out.hs)
    clear TW0
    go_wp2_with fail
    refine nl.out.mono ?_
    clear nl
    rintro e w5 ⟨hP, hb⟩
    have KS := Bx.mk K3.out.size
    have LB := Bx.mk hb.size
    have K4 := Bx.mk (K3.out.trans (hb.mono K3.out.size)); have EM4 := Bx.mk (EM3.out.below hb); have HS4 := Bx.mk (HS3.out.below hb); have XN4 := Bx.mk ((hb.block _ (Array.getElem?_eq_some_iff.1 XN3.out).1).trans XN3.out)
    clear hb K3 EM3 HS3 XN3
    unfold LoadP at hP
    have HN := Bx.mk hn
    by_cases hbig : 9223372036854775808 < n
    · rw [if_pos hbig] at hP
      subst hP
      have f1 : (9223372036854775808 : Int) < (n : Int) := by omega
      go_wp2_with fail
      refine (isE_any EM4.out.hs.err (ErrV.plain 4 (by decide)) 5).mono ?_
      rintro e w6 ⟨rfl, hb⟩
      go_wp2_with fail
      go_ret
      exact ⟨rfl, K4.out.trans (hb.mono K4.out.size)⟩
    · rw [if_neg hbig] at hP
      have f1 : ¬ (9223372036854775808 : Int) < (n : Int) := by omega
      have NM := Bx.mk (show n ≤ 9223372036854775808 by omega)
      obtain ⟨P, hPc⟩ : ∃ P, P = pcnt n := ⟨_, rfl⟩
      have cc := (count_any n w5 HN.out).mono fun e w' h => (⟨h.1, h.2 ▸ Below.refl _ _⟩ : e = .returned (.int .i64 (pcnt n : Int)) ∧ Below w5.heap.size w5 w')
      rw [← hPc] at cc hP
      have HPC := Bx.mk hPc; have CC := Bx.mk cc
      clear hPc cc hn hbig
      by_cases hcnt : l = P
      · rw [if_neg (by rw [← HL.out]; exact fun h => h hcnt)] at hP
        obtain ⟨b, s, rfl, hB⟩ := hP
        have HLP := Bx.mk hcnt
        have PC := Bx.mk (show hs.length = pcnt n by rw [← HL.out, hcnt, HPC.out])
        have P64 := Bx.mk (show hs.length ≤ 64 by rw [PC.out]; exact pcnt_le _)
        rw [← hcnt] at CC
        clear hcnt HPC
        have B0 := Bx.mk hB
        clear hB
        go_wp2_with fail
        refine CC.out.mono ?_
        clear CC
        rintro e W ⟨rfl, hb⟩
        have LB1 := Bx.mk (Nat.le_trans LB.out hb.size)
        have K5 := Bx.mk (K4.out.trans (hb.mono K4.out.size)); have EM5 := Bx.mk (EM4.out.below hb); have HS5 := Bx.mk (HS4.out.below hb); have XN5 := Bx.mk ((hb.block _ (Array.getElem?_eq_some_iff.1 XN4.out).1).trans XN4.out); have B1 := Bx.mk (B0.out.below hb)
        clear hb K4 EM4 HS4 XN4 B0
        go_upto_region 10 with (fail)
        obtain ⟨E0, hE0⟩ : ∃ x, x = sha [] := ⟨_, rfl⟩
        have HE0 := Bx.mk hE0; have E32 := Bx.mk (show E0.length = 32 by rw [hE0]; exact sha_length _)
        clear hE0 f1
        have CE : Bx (∀ u, Below W.heap.size W u → Calls Tryd.prog 20 #[] u fun e w' => e = .returned (.agg (ocells E0)) ∧ Below u.heap.size u w') := ⟨fun u hu => by
          have c := empty_any u (EM5.out.below hu).hs.tab
          rwa [← HE0.out, hv_agg] at c⟩
        refine wp_region_seq8 (n := 138) VK10mk (fun _ => none) (VK10 E0) (by kernel_rfl) rfl (fun _ _ => rfl) (fun _ _ _ _ h => by cases h) ?_ ?_ ?_
        · exact fun oi oj v own w own' w' hij h r => VK10_mono E0 oi oj v own w own' w' (by omega)  h r
        · intro oi o hi f u own hsame hsn hfr hlate hkeep8 hdep
          have hkeep := hkeep8 _ (Nat.le_refl _)
          have hb6 := hsn.below (B := W.heap.size) (fun _ _ => rfl) (Nat.le_refl _)
          match oi, hi with
          | 0, hi =>
            cases (show some _ = some o from hi)
            clear hdep hsame hi hlate hfr hkeep
            have c := CE.out u hb6
            exact .inl ⟨wanted_none rfl, showsO_call1 hsn rfl 20 #[] (by simp only [execOp, Act.eval]; go_simp) (c) (fun _ => rfl)⟩
          | 1, hi =>
            cases (show some _ = some o from hi)
            clear hdep hsame hi hlate hkeep
            exact .inl ⟨wanted_none rfl, showsO_alloc hsn hfr rfl zeros32 33 2 rfl (by simp only [execOp, Act.eval]; go_simp; rfl) (fun h => h)⟩
          | 2, hi =>
            cases (show some _ = some o from hi)
            have e9 : AllocV own u (f.tmps.getD 9 undef) 2 33 32 := depS (V := (VK10 E0)) hdep 1 9 (by decide) (by kernel_rfl)
            have e54 : (f.tmps.getD 54 undef) = .agg (ocells (E0)) := depS (V := (VK10 E0)) hdep 0 54 (by decide) (by kernel_rfl)
            clear hdep hsame hi hlate hfr hkeep
            exact .inl ⟨wanted_none rfl, showsO_store_alloc hsn rfl 33 (.tmp 9) (.tmp 54) rfl e9 (ocells (E0)) e54 (hszL E32.out) (by rw [ocells_size, E32.out]) (ocells_one _) (fun _ h => h)⟩
          | n + 3, hi => exact absurd hi (by simp)
        intro f w7 own hsame hsn hall
        have q54 : f.tmps.getD 54 undef = .agg (ocells (E0)) := finO (V := (VK10 E0)) hall 0 54 rfl
        obtain ⟨g9, q9, o9, m9⟩ := AllocV.stored (finO (V := (VK10 E0)) hall 1 9 rfl) (finN (V := (VK10 E0)) hall 2 rfl)
        obtain rfl := frame_eq hsame [(54, .agg (ocells (E0))), (9, .pointer (some ⟨g9, 0, none⟩))] (by kernel_rfl) ⟨q54, q9, trivial⟩
        clear hall hsame q54 q9
        simp only [List.foldl, List.setIfInBounds_toArray, List.set_cons_succ, List.set_cons_zero]
        have hb := hsn.below (B := W.heap.size) (fun _ _ => rfl) (Nat.le_refl _)
        have GE := Bx.mk (hsn.ge o9 (fun _ _ h => by cases h))
        have M0 : Bx (w7.heap[g9]? = some (.cells (ocells (upB (hs.drop l))) 33 (0, 0))) := ⟨by rw [m9, HE0.out, HL.out, List.drop_length]; rfl⟩
        have BW0 := Bx.mk hb
        clear hb hsn o9 m9 CE
        have lm := LM.out
        go_wp2_with fail
        go_loopw [10] (fun iv wr => ∃ K : Nat, K ≤ l ∧ iv = .int .i64 ((K : Int) - 1) ∧ wr.heap[g9]? = some (.cells (ocells (upB (hs.drop K))) 33 (0, 0)) ∧ Below W.heap.size W wr) (fun iv _ => (intOf iv + 1).toNat)
        case atStart => exact ⟨l, Nat.le_refl _, by have := LM.out; go_num, M0.out, BW0.out⟩
        case round =>
          obtain ⟨K0', hK, rfl, h3, hb⟩ := hrel
          have Y3 := Bx.mk h3; have BW := Bx.mk hb
          clear h3 hb M0 BW0
          by_cases hlt : 0 < K0'
          · obtain ⟨K, rfl⟩ : ∃ K, K0' = K + 1 := ⟨K0' - 1, by omega⟩
            obtain ⟨-, -, -, B2, off, e, hBl, hr0, hxl0⟩ := HS5.out.at K (by rw [← HL.out]; omega)
            subst e
            obtain ⟨x, hx⟩ : ∃ px, px = hs[K]'(by rw [← HL.out]; omega) := ⟨_, rfl⟩
            have hr : W.rangeAt B2 (off + K * 32) (bcells x) := by rw [hx]; exact hr0
            have hxl : x.length = 32 := by rw [hx]; exact hxl0
            have RX : Bx (∀ u, Below W.heap.size W u → u.rangeAt B2 (off + K * 32) (bcells x)) := ⟨fun u hu => rangeAt_below hr hBl hu⟩
            have XL := Bx.mk hxl; have HX : Bx (∀ h : K < hs.length, x = hs[K]) := ⟨fun _ => hx⟩
            have KL := Bx.mk (show K < l by omega)
            rw [show (((K + 1 : Nat) : Int) - 1) = (K : Int) by omega]
            have f2 : ¬ (l : Int) ≤ (K : Int) := by omega
            have f3 : (K : Int) < (l : Int) := by omega
            clear hr hBl hxl hx hr0 hxl0 hlt hK
            have LM2 := LM.out
            by_cases hlast : K + 1 = l
            · have f4 : (K : Int) = (l : Int) - 1 := by omega
              have HU : Bx (upB (hs.drop K) = x) := ⟨(upB_lastK (by rw [← HL.out]; exact hlast)).trans (HX.out _).symm⟩
              have YL := Bx.mk (upB_length _ (fun x hx => H32.out x (List.mem_of_mem_drop (i := K + 1) hx)))
              have Y3b := Y3.out
              obtain ⟨y, hy⟩ : ∃ y, y = upB (hs.drop (K + 1)) := ⟨_, rfl⟩
              rw [← hy] at YL Y3b
              have Y3 := Bx.mk Y3b
              clear Y3b hy
              have f5 : ((K : Int) == (l : Int) - 1) = true := by rw [beq_iff_eq]; omega
              clear f4
              go_upto_region 15 with (fail)
              refine wp_region_seq8 (n := 138) VK15mk (fun k => if k = g9 then some 4 else none) (VK15 K l n b g9 cap B2 off x y) (by kernel_rfl) rfl (fun k hk => if_neg (by have := (Array.getElem?_eq_some_iff.1 Y3.out).1; omega)) (fun j i hj _ => by cases hj) ?_ ?_ ?_
              · exact fun oi oj v own w own' w' hij h r => VK15_mono K l n b g9 cap B2 off x y oi oj v own w own' w' (by omega)  h r
              · intro oi o hi f u own hsame hsn hfr hlate hkeep8 hdep
                have hkeep := hkeep8 _ (Nat.le_refl _)
                have hk6 := hsn.keepOne
                have hb6 : Below W.heap.size W u := BW.out.trans (hk6.below BW.out.size (fun k hk => by have := GE.out; omega))
                match oi, hi with
                | 0, hi =>
                  cases (show some _ = some o from hi)
                  have e1 : f.tmps.getD 1 undef = .slice (some ⟨B2, off, none⟩) l cap := hlate 1 (earlyS (by kernel_rfl))
                  clear hdep hsame hi hlate hfr hkeep
                  exact .inl ⟨wanted_none rfl, showsO_move hsn rfl _ rfl e1⟩
                | 1, hi =>
                  cases (show some _ = some o from hi)
                  have e10 : f.tmps.getD 10 undef = .int .i64 (K : Int) := hlate 10 (earlyS (by kernel_rfl))
                  clear hdep hsame hi hlate hfr hkeep
                  exact .inl ⟨wanted_none rfl, showsO_move hsn rfl _ rfl e10⟩
                | 2, hi =>
                  cases (show some _ = some o from hi)
                  have e67 : (f.tmps.getD 67 undef) = .slice (some ⟨B2, off, none⟩) l cap := depS (V := (VK15 K l n b g9 cap B2 off x y)) hdep 0 67 (by decide) (by kernel_rfl)
                  have e68 : (f.tmps.getD 68 undef) = .int .i64 (K : Int) := depS (V := (VK15 K l n b g9 cap B2 off x y)) hdep 1 68 (by decide) (by kernel_rfl)
                  clear hdep hsame hi hlate hfr hkeep
                  have f2 : ¬ (l : Int) ≤ (K : Int) := by have := KL.out; omega
                  have f3 : (K : Int) < (l : Int) := by have := KL.out; omega
                  exact .inl ⟨wanted_none rfl, showsO_pure hsn rfl (.pointer (some ⟨B2, off + K * 32, none⟩)) (by simp only [execOp, Act.eval]; go_simp) rfl⟩
                | 3, hi =>
                  cases (show some _ = some o from hi)
                  have e69 : (f.tmps.getD 69 undef) = .pointer (some ⟨B2, off + K * 32, none⟩) := depS (V := (VK15 K l n b g9 cap B2 off x y)) hdep 2 69 (by decide) (by kernel_rfl)
                  clear hdep hsame hi hlate hfr hkeep
                  exact .inl ⟨wanted_none rfl, showsO_mid hsn rfl 33 (.tmp 69) rfl B2 (off + K * 32) e69 (bcells (x)) (RX.out u hb6) underH rfl (hszB' XL.out) rfl⟩
                | 4, hi =>
                  cases (show some _ = some o from hi)
                  have e9 : f.tmps.getD 9 undef = .pointer (some ⟨g9, 0, none⟩) := hlate 9 (earlyS (by kernel_rfl))
                  have e70 : (f.tmps.getD 70 undef) = .agg (ocells (x)) := depS (V := (VK15 K l n b g9 cap B2 off x y)) hdep 3 70 (by decide) (by kernel_rfl)
                  clear hdep hsame hi hlate hfr hkeep
                  exact .inl ⟨wanted_none rfl, showsO_store_out hsn rfl 33 (.tmp 9) (.tmp 70) rfl (g9) e9 Y3.out (if_pos rfl) (ocells (x)) e70 (hszL XL.out) (by rw [ocells_size, ocells_size, YL.out, XL.out]) (ocells_one _) (fun _ h => h)⟩
                | n + 5, hi => exact absurd hi (by simp)
              intro f u7 own hsame hsn hall
              have q67 : f.tmps.getD 67 undef = .slice (some ⟨B2, off, none⟩) l cap := finO (V := (VK15 K l n b g9 cap B2 off x y)) hall 0 67 rfl
              have q68 : f.tmps.getD 68 undef = .int .i64 (K : Int) := finO (V := (VK15 K l n b g9 cap B2 off x y)) hall 1 68 rfl
              have q69 : f.tmps.getD 69 undef = .pointer (some ⟨B2, off + K * 32, none⟩) := finO (V := (VK15 K l n b g9 cap B2 off x y)) hall 2 69 rfl
              have q70 : f.tmps.getD 70 undef = .agg (ocells (x)) := finO (V := (VK15 K l n b g9 cap B2 off x y)) hall 3 70 rfl
              obtain ⟨o_4, m_4⟩ : OutV own u7 (g9) 4 33 (ocells (x)) := finN (V := (VK15 K l n b g9 cap B2 off x y)) hall 4 rfl
              obtain rfl := frame_eq hsame [(67, .slice (some ⟨B2, off, none⟩) l cap), (68, .int .i64 (K : Int)), (69, .pointer (some ⟨B2, off + K * 32, none⟩)), (70, .agg (ocells (x)))] (by kernel_rfl) ⟨q67, q68, q69, q70, trivial⟩
              clear hall hsame q67 q68 q69 q70
              simp only [List.foldl, List.setIfInBounds_toArray, List.set_cons_succ, List.set_cons_zero]
              have hk6 := hsn.keepOne
              have B6 := Bx.mk (BW.out.trans (hk6.below BW.out.size (fun k hk => by have := GE.out; omega)))
              have M9 := Bx.mk m_4
              clear hk6 m_4 o_4 hsn
              go_wp2_with fail
              go_roundw
              case rel => exact ⟨K, by have := KL.out; omega, by go_num, by rw [HU.out]; exact M9.out, B6.out⟩
              case measure => first | (simp only [intOf]; omega) | (show ((K : Int) - 1 + 1).toNat < ((K : Int) + 1).toNat; omega)
            · have HU : Bx (upB (hs.drop K) = nd x (upB (hs.drop (K + 1)))) := ⟨by
                rw [upB_drop (l := hs) (k := K) (by rw [← HL.out]; have := KL.out; omega), ← HX.out]⟩
              have YL := Bx.mk (upB_length _ (fun x hx => H32.out x (List.mem_of_mem_drop (i := K + 1) hx)))
              have Y3b := Y3.out
              obtain ⟨y, hy⟩ : ∃ y, y = upB (hs.drop (K + 1)) := ⟨_, rfl⟩
              rw [← hy] at YL Y3b HU
              obtain ⟨z, hz⟩ : ∃ z, z = nd x y := ⟨_, rfl⟩
              rw [← hz] at HU
              have ZL := Bx.mk (show z.length = 32 by rw [hz]; exact nd_length _ _)
              have Y3 := Bx.mk Y3b
              have ND := Bx.mk (show sha (1 :: (x ++ y)) = z from hz.symm)
              clear Y3b hy hz
              have CN : Bx (∀ u, Below W.heap.size W u → Calls Tryd.prog 21 #[.agg (ocells x), .agg (ocells y)] u fun e w' => e = .returned (.agg (ocells z)) ∧ Below u.heap.size u w') := ⟨fun u hu => by
                have c := node_any u x y XL.out YL.out (EM5.out.below hu).hs.tab
                rwa [hv_agg, hv_agg, hv_agg, ND.out] at c⟩
              have f4 : ((K : Int) == (l : Int) - 1) = false := by rw [beq_eq_false_iff_ne]; omega
              clear hlast
              go_upto_region 16 with (fail)
              refine wp_region_own8 (n := 138) VK16mk (fun k => if k = g9 then some 6 else none) (VK16 K l n b g9 cap B2 off x y z) (by kernel_rfl) (by kernel_rfl) rfl (fun k hk => if_neg (by have := (Array.getElem?_eq_some_iff.1 Y3.out).1; omega)) (fun j i hj _ => by cases hj) ?_ ?_ ?_
              · exact fun oi oj v own w own' w' hij _ h r => VK16_mono K l n b g9 cap B2 off x y z oi oj v own w own' w' hij h r
              · intro oi o hi f u own hsame hsn hfr hlate hkeep8 hdep
                have hkeep := hkeep8 _ (.inl rfl)
                have hk6 := hsn.keepOne
                have hb6 : Below W.heap.size W u := BW.out.trans (hk6.below BW.out.size (fun k hk => by have := GE.out; omega))
                match oi, hi with
                | 0, hi =>
                  cases (show some _ = some o from hi)
                  have e1 : f.tmps.getD 1 undef = .slice (some ⟨B2, off, none⟩) l cap := hsame.slot 1 (fun i o h => invB2_not 1 (by kernel_rfl) h)
                  clear hdep hsame hi hlate hfr hkeep
                  exact .inl ⟨wanted_none rfl, showsO_move hsn rfl _ rfl e1⟩
                | 1, hi =>
                  cases (show some _ = some o from hi)
                  have e10 : f.tmps.getD 10 undef = .int .i64 (K : Int) := hsame.slot 10 (fun i o h => invB2_not 10 (by kernel_rfl) h)
                  clear hdep hsame hi hlate hfr hkeep
                  exact .inl ⟨wanted_none rfl, showsO_move hsn rfl _ rfl e10⟩
                | 2, hi =>
                  cases (show some _ = some o from hi)
                  have e71 : (f.tmps.getD 71 undef) = .slice (some ⟨B2, off, none⟩) l cap := depO (V := (VK16 K l n b g9 cap B2 off x y z)) hdep 0 71 (by kernel_rfl) (by kernel_rfl)
                  have e72 : (f.tmps.getD 72 undef) = .int .i64 (K : Int) := depO (V := (VK16 K l n b g9 cap B2 off x y z)) hdep 1 72 (by kernel_rfl) (by kernel_rfl)
                  clear hdep hsame hi hlate hfr hkeep
                  have f2 : ¬ (l : Int) ≤ (K : Int) := by have := KL.out; omega
                  have f3 : (K : Int) < (l : Int) := by have := KL.out; omega
                  exact .inl ⟨wanted_none rfl, showsO_pure hsn rfl (.pointer (some ⟨B2, off + K * 32, none⟩)) (by simp only [execOp, Act.eval]; go_simp) rfl⟩
                | 3, hi =>
                  cases (show some _ = some o from hi)
                  have e73 : (f.tmps.getD 73 undef) = .pointer (some ⟨B2, off + K * 32, none⟩) := depO (V := (VK16 K l n b g9 cap B2 off x y z)) hdep 2 73 (by kernel_rfl) (by kernel_rfl)
                  clear hdep hsame hi hlate hfr hkeep
                  exact .inl ⟨wanted_none rfl, showsO_mid hsn rfl 33 (.tmp 73) rfl B2 (off + K * 32) e73 (bcells (x)) (RX.out u hb6) underH rfl (hszB' XL.out) rfl⟩
                | 4, hi =>
                  cases (show some _ = some o from hi)
                  have e9 : f.tmps.getD 9 undef = .pointer (some ⟨g9, 0, none⟩) := hsame.slot 9 (fun i o h => invB2_not 9 (by kernel_rfl) h)
                  clear hdep hsame hi hlate hfr hkeep
                  have hgu := (hkeep8 6 (.inr (by kernel_rfl)) g9 (Array.getElem?_eq_some_iff.1 Y3.out).1 (if_pos rfl)).trans Y3.out
                  exact .inl ⟨wanted_none rfl, showsO_row hsn rfl 33 (.tmp 9) rfl g9 e9 (ocells (y)) hgu underH rfl (hszL YL.out) rfl⟩
                | 5, hi =>
                  cases (show some _ = some o from hi)
                  have e74 : (f.tmps.getD 74 undef) = .agg (ocells (x)) := depO (V := (VK16 K l n b g9 cap B2 off x y z)) hdep 3 74 (by kernel_rfl) (by kernel_rfl)
                  have e75 : (f.tmps.getD 75 undef) = .agg (ocells (y)) := depO (V := (VK16 K l n b g9 cap B2 off x y z)) hdep 4 75 (by kernel_rfl) (by kernel_rfl)
                  clear hdep hsame hi hlate hfr hkeep
                  have c := CN.out u hb6
                  exact .inl ⟨wanted_none rfl, showsO_call1 hsn rfl 21 #[.agg (ocells (x)), .agg (ocells (y))] (by simp only [execOp, Act.eval]; go_simp) (c) (fun _ => rfl)⟩
                | 6, hi =>
                  cases (show some _ = some o from hi)
                  have e9 : f.tmps.getD 9 undef = .pointer (some ⟨g9, 0, none⟩) := hsame.slot 9 (fun i o h => invB2_not 9 (by kernel_rfl) h)
                  have e76 : (f.tmps.getD 76 undef) = .agg (ocells (z)) := depO (V := (VK16 K l n b g9 cap B2 off x y z)) hdep 5 76 (by kernel_rfl) (by kernel_rfl)
                  clear hdep hsame hi hlate hfr hkeep
                  exact .inl ⟨wanted_none rfl, showsO_store_out hsn rfl 33 (.tmp 9) (.tmp 76) rfl (g9) e9 Y3.out (if_pos rfl) (ocells (z)) e76 (hszL ZL.out) (by rw [ocells_size, ocells_size, YL.out, ZL.out]) (ocells_one _) (fun _ h => h)⟩
                | n + 7, hi => exact absurd hi (by simp)
              intro f u7 own hsame hsn hall
              have q71 : f.tmps.getD 71 undef = .slice (some ⟨B2, off, none⟩) l cap := finO (V := (VK16 K l n b g9 cap B2 off x y z)) hall 0 71 rfl
              have q72 : f.tmps.getD 72 undef = .int .i64 (K : Int) := finO (V := (VK16 K l n b g9 cap B2 off x y z)) hall 1 72 rfl
              have q73 : f.tmps.getD 73 undef = .pointer (some ⟨B2, off + K * 32, none⟩) := finO (V := (VK16 K l n b g9 cap B2 off x y z)) hall 2 73 rfl
              have q74 : f.tmps.getD 74 undef = .agg (ocells (x)) := finO (V := (VK16 K l n b g9 cap B2 off x y z)) hall 3 74 rfl
              have q75 : f.tmps.getD 75 undef = .agg (ocells (y)) := finO (V := (VK16 K l n b g9 cap B2 off x y z)) hall 4 75 rfl
              have q76 : f.tmps.getD 76 undef = .agg (ocells (z)) := finO (V := (VK16 K l n b g9 cap B2 off x y z)) hall 5 76 rfl
              obtain ⟨o_6, m_6⟩ : OutV own u7 (g9) 6 33 (ocells (z)) := finN (V := (VK16 K l n b g9 cap B2 off x y z)) hall 6 rfl
              obtain rfl := frame_eq hsame [(71, .slice (some ⟨B2, off, none⟩) l cap), (72, .int .i64 (K : Int)), (73, .pointer (some ⟨B2, off + K * 32, none⟩)), (74, .agg (ocells (x))), (75, .agg (ocells (y))), (76, .agg (ocells (z)))] (by kernel_rfl) ⟨q71, q72, q73, q74, q75, q76, trivial⟩
              clear hall hsame q71 q72 q73 q74 q75 q76
              simp only [List.foldl, List.setIfInBounds_toArray, List.set_cons_succ, List.set_cons_zero]
              have hk6 := hsn.keepOne
              have B6 := Bx.mk (BW.out.trans (hk6.below BW.out.size (fun k hk => by have := GE.out; omega)))
              have M9 := Bx.mk m_6
              clear hk6 m_6 o_6 hsn
              go_wp2_with fail
              go_roundw
              case rel => exact ⟨K, by have := KL.out; omega, by go_num, by rw [HU.out]; exact M9.out, B6.out⟩
              case measure => first | (simp only [intOf]; omega) | (show ((K : Int) - 1 + 1).toNat < ((K : Int) + 1).toNat; omega)
          · obtain rfl : K0' = 0 := by omega
            obtain ⟨R, hR⟩ : ∃ R, R = upB hs := ⟨_, rfl⟩
            have R32 := Bx.mk (show R.length = 32 by rw [hR]; exact upB_length _ H32.out)
            have HR := Bx.mk hR
            have M90 : Bx (wr.heap[g9]? = some (.cells (ocells R) 33 (0, 0))) := ⟨by rw [Y3.out, List.drop_zero, hR]⟩
            have hb := BW.out
            clear hR Y3 BW hlt hK
            have LB2 := Bx.mk (Nat.le_trans LB1.out hb.size)
            have K6 := Bx.mk (K5.out.trans (hb.mono K5.out.size)); have EM6 := Bx.mk (EM5.out.below hb); have HS6 := Bx.mk (HS5.out.below hb); have XN6 := Bx.mk ((hb.block _ (Array.getElem?_eq_some_iff.1 XN5.out).1).trans XN5.out); have B2 := Bx.mk (B1.out.below hb)
            clear hb K5 EM5 HS5 XN5 B1
            have CR : Bx (∀ u, Below wr.heap.size wr u → Calls Tryd.prog 14 #[.pointer (some ⟨b, 0, none⟩)] u fun e w' => e = .returned (.agg (ocells R)) ∧ Below u.heap.size u w') := ⟨fun u hu => by
              have c := broot_any _ u b _ _ _ (B2.out.below hu) (EM6.out.below hu).hs.tab (P64.out)
              rwa [← HR.out, hv_agg] at c⟩
            have CS : Bx (∀ u, Below wr.heap.size wr u → Calls Tryd.prog 12 #[.pointer (some ⟨b, 0, none⟩)] u fun e w' => e = .returned (.int .u64 (n : Int)) ∧ Below u.heap.size u w') := ⟨fun u hu => (bsize_any _ u b _ _ _ (B2.out.below hu)).mono fun e w' h => ⟨h.1, h.2 ▸ Below.refl _ _⟩⟩
            have CH : Bx (∀ u, Below wr.heap.size wr u → Calls Tryd.prog 13 #[.pointer (some ⟨b, 0, none⟩)] u fun e w' => ∃ v, e = .returned v ∧ (w'.ownsRow 0 33 32 v l (hcells hs) ∧ ∀ k, v.ownBlock = some k → u.heap.size ≤ k) ∧ Below u.heap.size u w') := ⟨fun u hu => bhss_any _ u b _ _ _ l HL.out (B2.out.below hu) (by have := LM.out; omega) _ (Nat.zero_le _)⟩
            go_upto_region 17 with (fail)
            refine wp_region_own8 (n := 138) VK17mk (fun _ => none) (VK17 n b g9 l cap ad hs R) (by kernel_rfl) (by kernel_rfl) rfl (fun _ _ => rfl) (fun j i hj _ => by cases hj) ?_ ?_ ?_
            · exact fun oi oj v own w own' w' hij _ h r => VK17_mono n b g9 l cap ad hs R oi oj v own w own' w' hij h r
            · intro oi o hi f u own hsame hsn hfr hlate hkeep8 hdep
              have hkeep := hkeep8 _ (.inl rfl)
              have hb6 := hsn.below (B := wr.heap.size) (fun _ _ => rfl) (Nat.le_refl _)
              match oi, hi with
              | 0, hi =>
                cases (show some _ = some o from hi)
                have e7 : f.tmps.getD 7 undef = .pointer (some ⟨b, 0, none⟩) := hsame.slot 7 (fun i o h => invB2_not 7 (by kernel_rfl) h)
                clear hdep hsame hi hlate hfr hkeep
                exact .inl ⟨wanted_none rfl, showsO_move hsn rfl _ rfl e7⟩
              | 1, hi =>
                cases (show some _ = some o from hi)
                have e77 : (f.tmps.getD 77 undef) = .pointer (some ⟨b, 0, none⟩) := depO (V := (VK17 n b g9 l cap ad hs R)) hdep 0 77 (by kernel_rfl) (by kernel_rfl)
                clear hdep hsame hi hlate hfr hkeep
                have c := CR.out u hb6
                exact .inl ⟨wanted_none rfl, showsO_call1 hsn rfl 14 #[.pointer (some ⟨b, 0, none⟩)] (by simp only [execOp, Act.eval]; go_simp) (c) (fun _ => rfl)⟩
              | 2, hi =>
                cases (show some _ = some o from hi)
                have e9 : f.tmps.getD 9 undef = .pointer (some ⟨g9, 0, none⟩) := hsame.slot 9 (fun i o h => invB2_not 9 (by kernel_rfl) h)
                clear hdep hsame hi hlate hfr hkeep
                exact .inl ⟨wanted_none rfl, showsO_row hsn rfl 33 (.tmp 9) rfl g9 e9 (ocells (R)) ((hb6.block _ (Array.getElem?_eq_some_iff.1 M90.out).1).trans M90.out) underH rfl (hszL R32.out) rfl⟩
              | 3, hi =>
                cases (show some _ = some o from hi)
                have e78 : (f.tmps.getD 78 undef) = .agg (ocells (R)) := depO (V := (VK17 n b g9 l cap ad hs R)) hdep 1 78 (by kernel_rfl) (by kernel_rfl)
                have e79 : (f.tmps.getD 79 undef) = .agg (ocells (R)) := depO (V := (VK17 n b g9 l cap ad hs R)) hdep 2 79 (by kernel_rfl) (by kernel_rfl)
                clear hdep hsame hi hlate hfr hkeep
                have q := fun u => hv_neq u (R) (R) R32.out R32.out
                simp only [hv_agg, beq_self_eq_true, Bool.not_true] at q
                exact .inl ⟨wanted_none rfl, showsO_pure hsn rfl (.bool false) (by simp only [execOp, Act.eval]; go_simp) rfl⟩
              | 4, hi =>
                cases (show some _ = some o from hi)
                have e80 : (f.tmps.getD 80 undef) = .bool false := depO (V := (VK17 n b g9 l cap ad hs R)) hdep 3 80 (by kernel_rfl) (by kernel_rfl)
                clear hdep hsame hi hlate hfr hkeep
                exact .inl ⟨wanted_none rfl, showsO_move hsn rfl _ rfl e80⟩
              | 5, hi =>
                cases (show some _ = some o from hi)
                have e7 : f.tmps.getD 7 undef = .pointer (some ⟨b, 0, none⟩) := hsame.slot 7 (fun i o h => invB2_not 7 (by kernel_rfl) h)
                have eg : f.tmps.getD 81 undef = .bool false := depO (V := (VK17 n b g9 l cap ad hs R)) hdep 4 81 (by kernel_rfl) (by kernel_rfl)
                clear hdep hsame hi hlate hfr hkeep
                exact .inl ⟨wanted_of 4 rfl eg (by kernel_rfl), showsO_move hsn rfl _ rfl e7⟩
              | 6, hi =>
                cases (show some _ = some o from hi)
                have e82 : (f.tmps.getD 82 undef) = .pointer (some ⟨b, 0, none⟩) := depO (V := (VK17 n b g9 l cap ad hs R)) hdep 5 82 (by kernel_rfl) (by kernel_rfl)
                have eg : f.tmps.getD 81 undef = .bool false := depO (V := (VK17 n b g9 l cap ad hs R)) hdep 4 81 (by kernel_rfl) (by kernel_rfl)
                clear hdep hsame hi hlate hfr hkeep
                have c := CS.out u hb6
                exact .inl ⟨wanted_of 4 rfl eg (by kernel_rfl), showsO_call1 hsn rfl 12 #[.pointer (some ⟨b, 0, none⟩)] (by simp only [execOp, Act.eval]; go_simp) (c) (fun _ => rfl)⟩
              | 7, hi =>
                cases (show some _ = some o from hi)
                have e0 : f.tmps.getD 0 undef = .int .u64 (n : Int) := hsame.slot 0 (fun i o h => invB2_not 0 (by kernel_rfl) h)
                have eg : f.tmps.getD 81 undef = .bool false := depO (V := (VK17 n b g9 l cap ad hs R)) hdep 4 81 (by kernel_rfl) (by kernel_rfl)
                clear hdep hsame hi hlate hfr hkeep
                exact .inl ⟨wanted_of 4 rfl eg (by kernel_rfl), showsO_move hsn rfl _ rfl e0⟩
              | 8, hi =>
                cases (show some _ = some o from hi)
                have e83 : (f.tmps.getD 83 undef) = .int .u64 (n : Int) := depO (V := (VK17 n b g9 l cap ad hs R)) hdep 6 83 (by kernel_rfl) (by kernel_rfl)
                have e84 : (f.tmps.getD 84 undef) = .int .u64 (n : Int) := depO (V := (VK17 n b g9 l cap ad hs R)) hdep 7 84 (by kernel_rfl) (by kernel_rfl)
                have eg : f.tmps.getD 81 undef = .bool false := depO (V := (VK17 n b g9 l cap ad hs R)) hdep 4 81 (by kernel_rfl) (by kernel_rfl)
                clear hdep hsame hi hlate hfr hkeep
                exact .inl ⟨wanted_of 4 rfl eg (by kernel_rfl), showsO_pure hsn rfl (.bool false) (by simp only [execOp, Act.eval]; go_simp) rfl⟩
              | 9, hi =>
                cases (show some _ = some o from hi)
                have e81 : (f.tmps.getD 81 undef) = .bool false := depO (V := (VK17 n b g9 l cap ad hs R)) hdep 4 81 (by kernel_rfl) (by kernel_rfl)
                have e85 : (f.tmps.getD 85 undef) = .bool false := depO (V := (VK17 n b g9 l cap ad hs R)) hdep 8 85 (by kernel_rfl) (by kernel_rfl)
                clear hdep hsame hi hlate hfr hkeep
                exact .inl ⟨wanted_none rfl, showsO_pure hsn rfl (.bool false) (by simp only [execOp, Act.eval]; go_simp) rfl⟩
              | 10, hi =>
                cases (show some _ = some o from hi)
                have e86 : (f.tmps.getD 86 undef) = .bool false := depO (V := (VK17 n b g9 l cap ad hs R)) hdep 9 86 (by kernel_rfl) (by kernel_rfl)
                clear hdep hsame hi hlate hfr hkeep
                exact .inl ⟨wanted_none rfl, showsO_move hsn rfl _ rfl e86⟩
              | 11, hi =>
                cases (show some _ = some o from hi)
                have e7 : f.tmps.getD 7 undef = .pointer (some ⟨b, 0, none⟩) := hsame.slot 7 (fun i o h => invB2_not 7 (by kernel_rfl) h)
                have eg : f.tmps.getD 87 undef = .bool false := depO (V := (VK17 n b g9 l cap ad hs R)) hdep 10 87 (by kernel_rfl) (by kernel_rfl)
                clear hdep hsame hi hlate hfr hkeep
                exact .inl ⟨wanted_of 10 rfl eg (by kernel_rfl), showsO_move hsn rfl _ rfl e7⟩
              | 12, hi =>
                cases (show some _ = some o from hi)
                have e88 : (f.tmps.getD 88 undef) = .pointer (some ⟨b, 0, none⟩) := depO (V := (VK17 n b g9 l cap ad hs R)) hdep 11 88 (by kernel_rfl) (by kernel_rfl)
                have eg : f.tmps.getD 87 undef = .bool false := depO (V := (VK17 n b g9 l cap ad hs R)) hdep 10 87 (by kernel_rfl) (by kernel_rfl)
                clear hdep hsame hi hlate hfr hkeep
                have c := CH.out u hb6
                exact .inl ⟨wanted_of 10 rfl eg (by kernel_rfl), showsO_call (R := fun v w' => w'.ownsRow 0 33 32 v l (hcells hs) ∧ ∀ k, v.ownBlock = some k → u.heap.size ≤ k) hsn rfl 13 #[.pointer (some ⟨b, 0, none⟩)] (by simp only [execOp, Act.eval]; go_simp) c (fun v w' h _ => ⟨h.1, fun k hk => hsn.top k (h.2 k hk)⟩)⟩
              | 13, hi =>
                cases (show some _ = some o from hi)
                have e1 : f.tmps.getD 1 undef = .slice ad l cap := hsame.slot 1 (fun i o h => invB2_not 1 (by kernel_rfl) h)
                have eg : f.tmps.getD 87 undef = .bool false := depO (V := (VK17 n b g9 l cap ad hs R)) hdep 10 87 (by kernel_rfl) (by kernel_rfl)
                clear hdep hsame hi hlate hfr hkeep
                exact .inl ⟨wanted_of 10 rfl eg (by kernel_rfl), showsO_move hsn rfl _ rfl e1⟩
              | 14, hi =>
                cases (show some _ = some o from hi)
                have e89 : RowN own u (f.tmps.getD 89 undef) 0 33 32 l (hcells hs) := depO (V := (VK17 n b g9 l cap ad hs R)) hdep 12 89 (by kernel_rfl) (by kernel_rfl)
                have e90 : (f.tmps.getD 90 undef) = .slice ad l cap := depO (V := (VK17 n b g9 l cap ad hs R)) hdep 13 90 (by kernel_rfl) (by kernel_rfl)
                have eg : f.tmps.getD 87 undef = .bool false := depO (V := (VK17 n b g9 l cap ad hs R)) hdep 10 87 (by kernel_rfl) (by kernel_rfl)
                clear hdep hsame hi hlate hfr hkeep
                obtain ⟨hr89, _⟩ := e89
                obtain ⟨a9, c9, e89, _, _, _⟩ := own_shape hr89
                rw [e89] at hr89
                have c := same_any u a9 l c9 hs ad l cap hs (hss_own hr89 H32.out HL.out) (HS6.out.below hb6)
                rw [beq_self_eq_true] at c
                exact .inl ⟨wanted_of 10 rfl eg (by kernel_rfl), showsO_call1 hsn rfl 16 #[.slice a9 l c9, .slice ad l cap] (by simp only [execOp, Act.eval]; go_simp) (c) (fun _ => rfl)⟩
              | 15, hi =>
                cases (show some _ = some o from hi)
                have e91 : (f.tmps.getD 91 undef) = .bool true := depO (V := (VK17 n b g9 l cap ad hs R)) hdep 14 91 (by kernel_rfl) (by kernel_rfl)
                have eg : f.tmps.getD 87 undef = .bool false := depO (V := (VK17 n b g9 l cap ad hs R)) hdep 10 87 (by kernel_rfl) (by kernel_rfl)
                clear hdep hsame hi hlate hfr hkeep
                exact .inl ⟨wanted_of 10 rfl eg (by kernel_rfl), showsO_pure hsn rfl (.bool false) (by simp only [execOp, Act.eval]; go_simp) rfl⟩
              | 16, hi =>
                cases (show some _ = some o from hi)
                have e87 : (f.tmps.getD 87 undef) = .bool false := depO (V := (VK17 n b g9 l cap ad hs R)) hdep 10 87 (by kernel_rfl) (by kernel_rfl)
                have e92 : (f.tmps.getD 92 undef) = .bool false := depO (V := (VK17 n b g9 l cap ad hs R)) hdep 15 92 (by kernel_rfl) (by kernel_rfl)
                clear hdep hsame hi hlate hfr hkeep
                exact .inl ⟨wanted_none rfl, showsO_pure hsn rfl (.bool false) (by simp only [execOp, Act.eval]; go_simp) rfl⟩
              | n + 17, hi => exact absurd hi (by simp)
            intro f w8 own hsame hsn hall
            have q77 : f.tmps.getD 77 undef = .pointer (some ⟨b, 0, none⟩) := finO (V := (VK17 n b g9 l cap ad hs R)) hall 0 77 rfl
            have q78 : f.tmps.getD 78 undef = .agg (ocells (R)) := finO (V := (VK17 n b g9 l cap ad hs R)) hall 1 78 rfl
            have q79 : f.tmps.getD 79 undef = .agg (ocells (R)) := finO (V := (VK17 n b g9 l cap ad hs R)) hall 2 79 rfl
            have q80 : f.tmps.getD 80 undef = .bool false := finO (V := (VK17 n b g9 l cap ad hs R)) hall 3 80 rfl
            have q81 : f.tmps.getD 81 undef = .bool false := finO (V := (VK17 n b g9 l cap ad hs R)) hall 4 81 rfl
            have q82 : f.tmps.getD 82 undef = .pointer (some ⟨b, 0, none⟩) := finO (V := (VK17 n b g9 l cap ad hs R)) hall 5 82 rfl
            have q83 : f.tmps.getD 83 undef = .int .u64 (n : Int) := finO (V := (VK17 n b g9 l cap ad hs R)) hall 6 83 rfl
            have q84 : f.tmps.getD 84 undef = .int .u64 (n : Int) := finO (V := (VK17 n b g9 l cap ad hs R)) hall 7 84 rfl
            have q85 : f.tmps.getD 85 undef = .bool false := finO (V := (VK17 n b g9 l cap ad hs R)) hall 8 85 rfl
            have q86 : f.tmps.getD 86 undef = .bool false := finO (V := (VK17 n b g9 l cap ad hs R)) hall 9 86 rfl
            have q87 : f.tmps.getD 87 undef = .bool false := finO (V := (VK17 n b g9 l cap ad hs R)) hall 10 87 rfl
            have q88 : f.tmps.getD 88 undef = .pointer (some ⟨b, 0, none⟩) := finO (V := (VK17 n b g9 l cap ad hs R)) hall 11 88 rfl
            have m89 := finO (V := (VK17 n b g9 l cap ad hs R)) hall 12 89 rfl
            obtain ⟨r89, q89⟩ : ∃ r, f.tmps.getD 89 undef = r := ⟨_, rfl⟩
            rw [q89] at m89
            have q90 : f.tmps.getD 90 undef = .slice ad l cap := finO (V := (VK17 n b g9 l cap ad hs R)) hall 13 90 rfl
            have q91 : f.tmps.getD 91 undef = .bool true := finO (V := (VK17 n b g9 l cap ad hs R)) hall 14 91 rfl
            have q92 : f.tmps.getD 92 undef = .bool false := finO (V := (VK17 n b g9 l cap ad hs R)) hall 15 92 rfl
            have q93 : f.tmps.getD 93 undef = .bool false := finO (V := (VK17 n b g9 l cap ad hs R)) hall 16 93 rfl
            obtain rfl := frame_eq hsame [(77, .pointer (some ⟨b, 0, none⟩)), (78, .agg (ocells (R))), (79, .agg (ocells (R))), (80, .bool false), (81, .bool false), (82, .pointer (some ⟨b, 0, none⟩)), (83, .int .u64 (n : Int)), (84, .int .u64 (n : Int)), (85, .bool false), (86, .bool false), (87, .bool false), (88, .pointer (some ⟨b, 0, none⟩)), (89, r89), (90, .slice ad l cap), (91, .bool true), (92, .bool false), (93, .bool false)] (by kernel_rfl) ⟨q77, q78, q79, q80, q81, q82, q83, q84, q85, q86, q87, q88, q89, q90, q91, q92, q93, trivial⟩
            clear hall hsame q77 q78 q79 q80 q81 q82 q83 q84 q85 q86 q87 q88 q89 q90 q91 q92 q93
            simp only [List.foldl, List.setIfInBounds_toArray, List.set_cons_succ, List.set_cons_zero]
            have hb := hsn.below (B := wr.heap.size) (fun _ _ => rfl) (Nat.le_refl _)
            clear CR CS CH hsn m89
            have LB3 := Bx.mk (Nat.le_trans LB2.out hb.size)
            have K7 := Bx.mk (K6.out.trans (hb.mono K6.out.size)); have EM7 := Bx.mk (EM6.out.below hb); have HS7 := Bx.mk (HS6.out.below hb); have XN7 := Bx.mk ((hb.block _ (Array.getElem?_eq_some_iff.1 XN6.out).1).trans XN6.out); have B3 := Bx.mk (B2.out.below hb); have M91 := Bx.mk ((hb.block _ (Array.getElem?_eq_some_iff.1 M90.out).1).trans M90.out)
            clear hb K6 EM6 HS6 XN6 B2 M90
            by_cases hmax : n = 9223372036854775808
            · have ca := add_limit A _ w8 b _ _ (hmax ▸ B3.out) p EM7.out.hs.err
              rw [hv_agg] at ca
              have CA := Bx.mk ca; clear ca
              have f4 : ((n : Int) == 9223372036854775808) = true := by rw [hmax]; rfl
              have f5 : (n == 9223372036854775808) = true := by rw [hmax]; rfl
              clear hmax
              go_upto_region 19 with (fail)
              go_wp2_with (guard_target =~ wpList _ _ _ (⟨some 96, _, _, _, _, _⟩ :: _) _ _; refine wpList_load_row rfl 33 (.tmp 5) rfl N rfl _ _ _ _ XN7.out underH rfl (hszL PL.out) ?_)
              refine CA.out.mono ?_
              clear CA
              rintro e w9 ⟨rfl, hb⟩
              have K8 := Bx.mk (K7.out.trans (hb.mono K7.out.size)); have EM8 := Bx.mk (EM7.out.below hb); have HS8 := Bx.mk (HS7.out.below hb); have XN8 := Bx.mk ((hb.block _ (Array.getElem?_eq_some_iff.1 XN7.out).1).trans XN7.out); have B4 := Bx.mk (B3.out.below hb); have M92 := Bx.mk ((hb.block _ (Array.getElem?_eq_some_iff.1 M91.out).1).trans M91.out)
              clear hb K7 EM7 HS7 XN7 B3 M91
              have CR : Bx (∀ u, Below w9.heap.size w9 u → Calls Tryd.prog 14 #[.pointer (some ⟨b, 0, none⟩)] u fun e w' => e = .returned (.agg (ocells R)) ∧ Below u.heap.size u w') := ⟨fun u hu => by
                have c := broot_any _ u b _ _ _ (B4.out.below hu) (EM8.out.below hu).hs.tab (P64.out)
                rwa [← HR.out, hv_agg] at c⟩
              have CS : Bx (∀ u, Below w9.heap.size w9 u → Calls Tryd.prog 12 #[.pointer (some ⟨b, 0, none⟩)] u fun e w' => e = .returned (.int .u64 (n : Int)) ∧ Below u.heap.size u w') := ⟨fun u hu => (bsize_any _ u b _ _ _ (B4.out.below hu)).mono fun e w' h => ⟨h.1, h.2 ▸ Below.refl _ _⟩⟩
              have HE : Bx (∀ u, Below w9.heap.size w9 u → Errs u A) := ⟨fun u hu => (EM8.out.below hu).hs.err⟩
              go_upto_region 21 with (fail)
              refine wp_region_own8 (n := 138) VK21mk (fun _ => none) (VK21 A n b g9 R) (by kernel_rfl) (by kernel_rfl) rfl (fun _ _ => rfl) (fun j i hj _ => by cases hj) ?_ ?_ ?_
              · exact fun oi oj v own w own' w' hij _ h r => VK21_mono A n b g9 R oi oj v own w own' w' hij h r
              · intro oi o hi f u own hsame hsn hfr hlate hkeep8 hdep
                have hkeep := hkeep8 _ (.inl rfl)
                have hb6 := hsn.below (B := w9.heap.size) (fun _ _ => rfl) (Nat.le_refl _)
                match oi, hi with
                | 0, hi =>
                  cases (show some _ = some o from hi)
                  have e12 : f.tmps.getD 12 undef = .iface 124 (.pointer (some (A 3))) := hsame.slot 12 (fun i o h => invB2_not 12 (by kernel_rfl) h)
                  clear hdep hsame hi hlate hfr hkeep
                  exact .inl ⟨wanted_none rfl, showsO_move hsn rfl _ rfl e12⟩
                | 1, hi =>
                  cases (show some _ = some o from hi)
                  have e102 : (f.tmps.getD 102 undef) = .iface 124 (.pointer (some (A 3))) := depO (V := (VK21 A n b g9 R)) hdep 0 102 (by kernel_rfl) (by kernel_rfl)
                  clear hdep hsame hi hlate hfr hkeep
                  have c := isE_any (HE.out u hb6) (ErrV.plain 3 (by decide)) 4
                  exact .inl ⟨wanted_none rfl, showsO_call1 hsn rfl 17 #[.iface 124 (.pointer (some (A 3))), .int .i64 4] (by simp only [execOp, Act.eval]; go_simp) (c) (fun _ => rfl)⟩
                | 2, hi =>
                  cases (show some _ = some o from hi)
                  have e103 : (f.tmps.getD 103 undef) = .bool true := depO (V := (VK21 A n b g9 R)) hdep 1 103 (by kernel_rfl) (by kernel_rfl)
                  clear hdep hsame hi hlate hfr hkeep
                  exact .inl ⟨wanted_none rfl, showsO_move hsn rfl _ rfl e103⟩
                | 3, hi =>
                  cases (show some _ = some o from hi)
                  have e11 : f.tmps.getD 11 undef = .slice none 0 0 := hsame.slot 11 (fun i o h => invB2_not 11 (by kernel_rfl) h)
                  have eg : f.tmps.getD 104 undef = .bool true := depO (V := (VK21 A n b g9 R)) hdep 2 104 (by kernel_rfl) (by kernel_rfl)
                  clear hdep hsame hi hlate hfr hkeep
                  exact .inl ⟨wanted_of 2 rfl eg (by kernel_rfl), showsO_move hsn rfl _ rfl e11⟩
                | 4, hi =>
                  cases (show some _ = some o from hi)
                  have e105 : (f.tmps.getD 105 undef) = .slice none 0 0 := depO (V := (VK21 A n b g9 R)) hdep 3 105 (by kernel_rfl) (by kernel_rfl)
                  have eg : f.tmps.getD 104 undef = .bool true := depO (V := (VK21 A n b g9 R)) hdep 2 104 (by kernel_rfl) (by kernel_rfl)
                  clear hdep hsame hi hlate hfr hkeep
                  exact .inl ⟨wanted_of 2 rfl eg (by kernel_rfl), showsO_pure hsn rfl (.int .i64 0) (by simp only [execOp, Act.eval]; go_simp) rfl⟩
                | 5, hi =>
                  cases (show some _ = some o from hi)
                  have e106 : (f.tmps.getD 106 undef) = .int .i64 0 := depO (V := (VK21 A n b g9 R)) hdep 4 106 (by kernel_rfl) (by kernel_rfl)
                  have eg : f.tmps.getD 104 undef = .bool true := depO (V := (VK21 A n b g9 R)) hdep 2 104 (by kernel_rfl) (by kernel_rfl)
                  clear hdep hsame hi hlate hfr hkeep
                  exact .inl ⟨wanted_of 2 rfl eg (by kernel_rfl), showsO_pure hsn rfl (.bool true) (by simp only [execOp, Act.eval]; go_simp) rfl⟩
                | 6, hi =>
                  cases (show some _ = some o from hi)
                  have e104 : (f.tmps.getD 104 undef) = .bool true := depO (V := (VK21 A n b g9 R)) hdep 2 104 (by kernel_rfl) (by kernel_rfl)
                  have e107 : (f.tmps.getD 107 undef) = .bool true := depO (V := (VK21 A n b g9 R)) hdep 5 107 (by kernel_rfl) (by kernel_rfl)
                  clear hdep hsame hi hlate hfr hkeep
                  exact .inl ⟨wanted_none rfl, showsO_pure hsn rfl (.bool true) (by simp only [execOp, Act.eval]; go_simp) rfl⟩
                | 7, hi =>
                  cases (show some _ = some o from hi)
                  have e108 : (f.tmps.getD 108 undef) = .bool true := depO (V := (VK21 A n b g9 R)) hdep 6 108 (by kernel_rfl) (by kernel_rfl)
                  clear hdep hsame hi hlate hfr hkeep
                  exact .inl ⟨wanted_none rfl, showsO_move hsn rfl _ rfl e108⟩
                | 8, hi =>
                  cases (show some _ = some o from hi)
                  have e7 : f.tmps.getD 7 undef = .pointer (some ⟨b, 0, none⟩) := hsame.slot 7 (fun i o h => invB2_not 7 (by kernel_rfl) h)
                  have eg : f.tmps.getD 109 undef = .bool true := depO (V := (VK21 A n b g9 R)) hdep 7 109 (by kernel_rfl) (by kernel_rfl)
                  clear hdep hsame hi hlate hfr hkeep
                  exact .inl ⟨wanted_of 7 rfl eg (by kernel_rfl), showsO_move hsn rfl _ rfl e7⟩
                | 9, hi =>
                  cases (show some _ = some o from hi)
                  have e110 : (f.tmps.getD 110 undef) = .pointer (some ⟨b, 0, none⟩) := depO (V := (VK21 A n b g9 R)) hdep 8 110 (by kernel_rfl) (by kernel_rfl)
                  have eg : f.tmps.getD 109 undef = .bool true := depO (V := (VK21 A n b g9 R)) hdep 7 109 (by kernel_rfl) (by kernel_rfl)
                  clear hdep hsame hi hlate hfr hkeep
                  have c := CS.out u hb6
                  exact .inl ⟨wanted_of 7 rfl eg (by kernel_rfl), showsO_call1 hsn rfl 12 #[.pointer (some ⟨b, 0, none⟩)] (by simp only [execOp, Act.eval]; go_simp) (c) (fun _ => rfl)⟩
                | 10, hi =>
                  cases (show some _ = some o from hi)
                  have e0 : f.tmps.getD 0 undef = .int .u64 (n : Int) := hsame.slot 0 (fun i o h => invB2_not 0 (by kernel_rfl) h)
                  have eg : f.tmps.getD 109 undef = .bool true := depO (V := (VK21 A n b g9 R)) hdep 7 109 (by kernel_rfl) (by kernel_rfl)
                  clear hdep hsame hi hlate hfr hkeep
                  exact .inl ⟨wanted_of 7 rfl eg (by kernel_rfl), showsO_move hsn rfl _ rfl e0⟩
                | 11, hi =>
                  cases (show some _ = some o from hi)
                  have e111 : (f.tmps.getD 111 undef) = .int .u64 (n : Int) := depO (V := (VK21 A n b g9 R)) hdep 9 111 (by kernel_rfl) (by kernel_rfl)
                  have e112 : (f.tmps.getD 112 undef) = .int .u64 (n : Int) := depO (V := (VK21 A n b g9 R)) hdep 10 112 (by kernel_rfl) (by kernel_rfl)
                  have eg : f.tmps.getD 109 undef = .bool true := depO (V := (VK21 A n b g9 R)) hdep 7 109 (by kernel_rfl) (by kernel_rfl)
                  clear hdep hsame hi hlate hfr hkeep
                  exact .inl ⟨wanted_of 7 rfl eg (by kernel_rfl), showsO_pure hsn rfl (.bool true) (by simp only [execOp, Act.eval]; go_simp) rfl⟩
                | 12, hi =>
                  cases (show some _ = some o from hi)
                  have e109 : (f.tmps.getD 109 undef) = .bool true := depO (V := (VK21 A n b g9 R)) hdep 7 109 (by kernel_rfl) (by kernel_rfl)
                  have e113 : (f.tmps.getD 113 undef) = .bool true := depO (V := (VK21 A n b g9 R)) hdep 11 113 (by kernel_rfl) (by kernel_rfl)
                  clear hdep hsame hi hlate hfr hkeep
                  exact .inl ⟨wanted_none rfl, showsO_pure hsn rfl (.bool true) (by simp only [execOp, Act.eval]; go_simp) rfl⟩
                | 13, hi =>
                  cases (show some _ = some o from hi)
                  have e114 : (f.tmps.getD 114 undef) = .bool true := depO (V := (VK21 A n b g9 R)) hdep 12 114 (by kernel_rfl) (by kernel_rfl)
                  clear hdep hsame hi hlate hfr hkeep
                  exact .inl ⟨wanted_none rfl, showsO_move hsn rfl _ rfl e114⟩
                | 14, hi =>
                  cases (show some _ = some o from hi)
                  have e7 : f.tmps.getD 7 undef = .pointer (some ⟨b, 0, none⟩) := hsame.slot 7 (fun i o h => invB2_not 7 (by kernel_rfl) h)
                  have eg : f.tmps.getD 115 undef = .bool true := depO (V := (VK21 A n b g9 R)) hdep 13 115 (by kernel_rfl) (by kernel_rfl)
                  clear hdep hsame hi hlate hfr hkeep
                  exact .inl ⟨wanted_of 13 rfl eg (by kernel_rfl), showsO_move hsn rfl _ rfl e7⟩
                | 15, hi =>
                  cases (show some _ = some o from hi)
                  have e116 : (f.tmps.getD 116 undef) = .pointer (some ⟨b, 0, none⟩) := depO (V := (VK21 A n b g9 R)) hdep 14 116 (by kernel_rfl) (by kernel_rfl)
                  have eg : f.tmps.getD 115 undef = .bool true := depO (V := (VK21 A n b g9 R)) hdep 13 115 (by kernel_rfl) (by kernel_rfl)
                  clear hdep hsame hi hlate hfr hkeep
                  have c := CR.out u hb6
                  exact .inl ⟨wanted_of 13 rfl eg (by kernel_rfl), showsO_call1 hsn rfl 14 #[.pointer (some ⟨b, 0, none⟩)] (by simp only [execOp, Act.eval]; go_simp) (c) (fun _ => rfl)⟩
                | 16, hi =>
                  cases (show some _ = some o from hi)
                  have e9 : f.tmps.getD 9 undef = .pointer (some ⟨g9, 0, none⟩) := hsame.slot 9 (fun i o h => invB2_not 9 (by kernel_rfl) h)
                  have eg : f.tmps.getD 115 undef = .bool true := depO (V := (VK21 A n b g9 R)) hdep 13 115 (by kernel_rfl) (by kernel_rfl)
                  clear hdep hsame hi hlate hfr hkeep
                  exact .inl ⟨wanted_of 13 rfl eg (by kernel_rfl), showsO_row hsn rfl 33 (.tmp 9) rfl g9 e9 (ocells (R)) ((hb6.block _ (Array.getElem?_eq_some_iff.1 M92.out).1).trans M92.out) underH rfl (hszL R32.out) rfl⟩
                | 17, hi =>
                  cases (show some _ = some o from hi)
                  have e117 : (f.tmps.getD 117 undef) = .agg (ocells (R)) := depO (V := (VK21 A n b g9 R)) hdep 15 117 (by kernel_rfl) (by kernel_rfl)
                  have e118 : (f.tmps.getD 118 undef) = .agg (ocells (R)) := depO (V := (VK21 A n b g9 R)) hdep 16 118 (by kernel_rfl) (by kernel_rfl)
                  have eg : f.tmps.getD 115 undef = .bool true := depO (V := (VK21 A n b g9 R)) hdep 13 115 (by kernel_rfl) (by kernel_rfl)
                  clear hdep hsame hi hlate hfr hkeep
                  have q := fun u => hv_eq u (R) (R) R32.out R32.out
                  simp only [hv_agg, beq_self_eq_true] at q
                  exact .inl ⟨wanted_of 13 rfl eg (by kernel_rfl), showsO_pure hsn rfl (.bool true) (by simp only [execOp, Act.eval]; go_simp) rfl⟩
                | 18, hi =>
                  cases (show some _ = some o from hi)
                  have e115 : (f.tmps.getD 115 undef) = .bool true := depO (V := (VK21 A n b g9 R)) hdep 13 115 (by kernel_rfl) (by kernel_rfl)
                  have e119 : (f.tmps.getD 119 undef) = .bool true := depO (V := (VK21 A n b g9 R)) hdep 17 119 (by kernel_rfl) (by kernel_rfl)
                  clear hdep hsame hi hlate hfr hkeep
                  exact .inl ⟨wanted_none rfl, showsO_pure hsn rfl (.bool true) (by simp only [execOp, Act.eval]; go_simp) rfl⟩
                | 19, hi =>
                  cases (show some _ = some o from hi)
                  have e120 : (f.tmps.getD 120 undef) = .bool true := depO (V := (VK21 A n b g9 R)) hdep 18 120 (by kernel_rfl) (by kernel_rfl)
                  clear hdep hsame hi hlate hfr hkeep
                  exact .inl ⟨wanted_none rfl, showsO_assign hsn rfl _ rfl e120⟩
                | n + 20, hi => exact absurd hi (by simp)
              intro f w10 own hsame hsn hall
              have q102 : f.tmps.getD 102 undef = .iface 124 (.pointer (some (A 3))) := finO (V := (VK21 A n b g9 R)) hall 0 102 rfl
              have q103 : f.tmps.getD 103 undef = .bool true := finO (V := (VK21 A n b g9 R)) hall 1 103 rfl
              have q104 : f.tmps.getD 104 undef = .bool true := finO (V := (VK21 A n b g9 R)) hall 2 104 rfl
              have q105 : f.tmps.getD 105 undef = .slice none 0 0 := finO (V := (VK21 A n b g9 R)) hall 3 105 rfl
              have q106 : f.tmps.getD 106 undef = .int .i64 0 := finO (V := (VK21 A n b g9 R)) hall 4 106 rfl
              have q107 : f.tmps.getD 107 undef = .bool true := finO (V := (VK21 A n b g9 R)) hall 5 107 rfl
              have q108 : f.tmps.getD 108 undef = .bool true := finO (V := (VK21 A n b g9 R)) hall 6 108 rfl
              have q109 : f.tmps.getD 109 undef = .bool true := finO (V := (VK21 A n b g9 R)) hall 7 109 rfl
              have q110 : f.tmps.getD 110 undef = .pointer (some ⟨b, 0, none⟩) := finO (V := (VK21 A n b g9 R)) hall 8 110 rfl
              have q111 : f.tmps.getD 111 undef = .int .u64 (n : Int) := finO (V := (VK21 A n b g9 R)) hall 9 111 rfl
              have q112 : f.tmps.getD 112 undef = .int .u64 (n : Int) := finO (V := (VK21 A n b g9 R)) hall 10 112 rfl
              have q113 : f.tmps.getD 113 undef = .bool true := finO (V := (VK21 A n b g9 R)) hall 11 113 rfl
              have q114 : f.tmps.getD 114 undef = .bool true := finO (V := (VK21 A n b g9 R)) hall 12 114 rfl
              have q115 : f.tmps.getD 115 undef = .bool true := finO (V := (VK21 A n b g9 R)) hall 13 115 rfl
              have q116 : f.tmps.getD 116 undef = .pointer (some ⟨b, 0, none⟩) := finO (V := (VK21 A n b g9 R)) hall 14 116 rfl
              have q117 : f.tmps.getD 117 undef = .agg (ocells (R)) := finO (V := (VK21 A n b g9 R)) hall 15 117 rfl
              have q118 : f.tmps.getD 118 undef = .agg (ocells (R)) := finO (V := (VK21 A n b g9 R)) hall 16 118 rfl
              have q119 : f.tmps.getD 119 undef = .bool true := finO (V := (VK21 A n b g9 R)) hall 17 119 rfl
              have q120 : f.tmps.getD 120 undef = .bool true := finO (V := (VK21 A n b g9 R)) hall 18 120 rfl
              have q6 : f.tmps.getD 6 undef = .bool true := finO (V := (VK21 A n b g9 R)) hall 19 6 rfl
              obtain rfl := frame_eq hsame [(102, .iface 124 (.pointer (some (A 3)))), (103, .bool true), (104, .bool true), (105, .slice none 0 0), (106, .int .i64 0), (107, .bool true), (108, .bool true), (109, .bool true), (110, .pointer (some ⟨b, 0, none⟩)), (111, .int .u64 (n : Int)), (112, .int .u64 (n : Int)), (113, .bool true), (114, .bool true), (115, .bool true), (116, .pointer (some ⟨b, 0, none⟩)), (117, .agg (ocells (R))), (118, .agg (ocells (R))), (119, .bool true), (120, .bool true), (6, .bool true)] (by kernel_rfl) ⟨q102, q103, q104, q105, q106, q107, q108, q109, q110, q111, q112, q113, q114, q115, q116, q117, q118, q119, q120, q6, trivial⟩
              clear hall hsame q102 q103 q104 q105 q106 q107 q108 q109 q110 q111 q112 q113 q114 q115 q116 q117 q118 q119 q120 q6
              simp only [List.foldl, List.setIfInBounds_toArray, List.set_cons_succ, List.set_cons_zero]
              have hb := hsn.below (B := w9.heap.size) (fun _ _ => rfl) (Nat.le_refl _)
              go_wp2_with fail
              go_ret
              exact ⟨rfl, K8.out.trans (hb.mono K8.out.size)⟩
            · have NL := Bx.mk (show n < 9223372036854775808 by have := NM.out; omega)
              have ca := add_any A w4.heap.size w8 b n hs s B3.out PC.out NL.out p PL.out EM7.out.hs EM7.out.tz EM7.out.lt LB3.out
              rw [hv_agg] at ca
              have CA := Bx.mk ca; clear ca
              have f4 : ((n : Int) == 9223372036854775808) = false := by rw [beq_eq_false_iff_ne]; omega
              clear hmax
              go_upto_region 19 with (fail)
              go_wp2_with (guard_target =~ wpList _ _ _ (⟨some 96, _, _, _, _, _⟩ :: _) _ _; refine wpList_load_row rfl 33 (.tmp 5) rfl N rfl _ _ _ _ XN7.out underH rfl (hszL PL.out) ?_)
              refine CA.out.mono ?_
              clear CA
              rintro e w9 ⟨v, rfl, hR2⟩
              obtain ⟨hr, hk, s2, hB2, -⟩ := hR2
              have hb0 := B3.out.below0 hk LB3.out
              have K9 := Bx.mk (K7.out.trans (hb0.mono KS.out))
              obtain ⟨Q, hQ⟩ : ∃ Q, Q = tones n := ⟨_, rfl⟩
              have Q64 := Bx.mk (show Q ≤ 64 by rw [hQ]; exact tones_64 n)
              rw [← hQ] at hr
              have cq : ∀ u, Calls Tryd.prog 22 #[.int .u64 (n : Int)] u fun e w' => e = .returned (.int .i64 (Q : Int)) ∧ Below u.heap.size u w' := fun u => by
                have c := bones_any n u HN.out
                rw [← hQ] at c
                exact c.mono fun e w' h => ⟨h.1, h.2 ▸ Below.refl _ _⟩
              have CQ := Bx.mk cq
              obtain ⟨a11, c11, rfl, q1, q2, q3⟩ := own_shape hr
              have B9 := Bx.mk hB2
              clear hr hk hB2 hb0 hQ cq q1 q2 q3
              have CS : Bx (∀ u, Below w9.heap.size w9 u → Calls Tryd.prog 12 #[.pointer (some ⟨b, 0, none⟩)] u fun e w' => e = .returned (.int .u64 ((n + 1 : Nat) : Int)) ∧ Below u.heap.size u w') := ⟨fun u hu => (bsize_any _ u b _ _ _ (B9.out.below hu)).mono fun e w' h => ⟨h.1, h.2 ▸ Below.refl _ _⟩⟩
              go_upto_region 22 with (fail)
              refine wp_region_seq8 (n := 138) VK22mk (fun _ => none) (VK22 n b Q c11 a11) (by kernel_rfl) rfl (fun _ _ => rfl) (fun j i hj _ => by cases hj) ?_ ?_ ?_
              · exact fun oi oj v own w own' w' hij h r => VK22_mono n b Q c11 a11 oi oj v own w own' w' (by omega)  h r
              · intro oi o hi f u own hsame hsn hfr hlate hkeep8 hdep
                have hkeep := hkeep8 _ (Nat.le_refl _)
                have hb6 := hsn.below (B := w9.heap.size) (fun _ _ => rfl) (Nat.le_refl _)
                match oi, hi with
                | 0, hi =>
                  cases (show some _ = some o from hi)
                  have e12 : f.tmps.getD 12 undef = .nilIface := hlate 12 (earlyS (by kernel_rfl))
                  clear hdep hsame hi hlate hfr hkeep
                  exact .inl ⟨wanted_none rfl, showsO_move hsn rfl _ rfl e12⟩
                | 1, hi =>
                  cases (show some _ = some o from hi)
                  have e121 : (f.tmps.getD 121 undef) = .nilIface := depS (V := (VK22 n b Q c11 a11)) hdep 0 121 (by decide) (by kernel_rfl)
                  clear hdep hsame hi hlate hfr hkeep
                  exact .inl ⟨wanted_none rfl, showsO_pure hsn rfl (.bool true) (by simp only [execOp, Act.eval]; go_simp) rfl⟩
                | 2, hi =>
                  cases (show some _ = some o from hi)
                  have e122 : (f.tmps.getD 122 undef) = .bool true := depS (V := (VK22 n b Q c11 a11)) hdep 1 122 (by decide) (by kernel_rfl)
                  clear hdep hsame hi hlate hfr hkeep
                  exact .inl ⟨wanted_none rfl, showsO_move hsn rfl _ rfl e122⟩
                | 3, hi =>
                  cases (show some _ = some o from hi)
                  have e7 : f.tmps.getD 7 undef = .pointer (some ⟨b, 0, none⟩) := hlate 7 (earlyS (by kernel_rfl))
                  have eg : f.tmps.getD 123 undef = .bool true := depS (V := (VK22 n b Q c11 a11)) hdep 2 123 (by decide) (by kernel_rfl)
                  clear hdep hsame hi hlate hfr hkeep
                  exact .inl ⟨wanted_of 2 rfl eg (by kernel_rfl), showsO_move hsn rfl _ rfl e7⟩
                | 4, hi =>
                  cases (show some _ = some o from hi)
                  have e124 : (f.tmps.getD 124 undef) = .pointer (some ⟨b, 0, none⟩) := depS (V := (VK22 n b Q c11 a11)) hdep 3 124 (by decide) (by kernel_rfl)
                  have eg : f.tmps.getD 123 undef = .bool true := depS (V := (VK22 n b Q c11 a11)) hdep 2 123 (by decide) (by kernel_rfl)
                  clear hdep hsame hi hlate hfr hkeep
                  have c := CS.out u hb6
                  exact .inl ⟨wanted_of 2 rfl eg (by kernel_rfl), showsO_call1 hsn rfl 12 #[.pointer (some ⟨b, 0, none⟩)] (by simp only [execOp, Act.eval]; go_simp) (c) (fun _ => rfl)⟩
                | 5, hi =>
                  cases (show some _ = some o from hi)
                  have e0 : f.tmps.getD 0 undef = .int .u64 (n : Int) := hlate 0 (earlyS (by kernel_rfl))
                  have eg : f.tmps.getD 123 undef = .bool true := depS (V := (VK22 n b Q c11 a11)) hdep 2 123 (by decide) (by kernel_rfl)
                  clear hdep hsame hi hlate hfr hkeep
                  exact .inl ⟨wanted_of 2 rfl eg (by kernel_rfl), showsO_move hsn rfl _ rfl e0⟩
                | 6, hi =>
                  cases (show some _ = some o from hi)
                  have e126 : (f.tmps.getD 126 undef) = .int .u64 (n : Int) := depS (V := (VK22 n b Q c11 a11)) hdep 5 126 (by decide) (by kernel_rfl)
                  have eg : f.tmps.getD 123 undef = .bool true := depS (V := (VK22 n b Q c11 a11)) hdep 2 123 (by decide) (by kernel_rfl)
                  clear hdep hsame hi hlate hfr hkeep
                  have hl := NL.out
                  exact .inl ⟨wanted_of 2 rfl eg (by kernel_rfl), showsO_pure hsn rfl (.int .u64 ((n + 1 : Nat) : Int)) (by simp only [execOp, Act.eval]; go_simp; simp [IntKind.wrap, IntKind.bits, IntKind.signed]; omega) rfl⟩
                | 7, hi =>
                  cases (show some _ = some o from hi)
                  have e125 : (f.tmps.getD 125 undef) = .int .u64 ((n + 1 : Nat) : Int) := depS (V := (VK22 n b Q c11 a11)) hdep 4 125 (by decide) (by kernel_rfl)
                  have e127 : (f.tmps.getD 127 undef) = .int .u64 ((n + 1 : Nat) : Int) := depS (V := (VK22 n b Q c11 a11)) hdep 6 127 (by decide) (by kernel_rfl)
                  have eg : f.tmps.getD 123 undef = .bool true := depS (V := (VK22 n b Q c11 a11)) hdep 2 123 (by decide) (by kernel_rfl)
                  clear hdep hsame hi hlate hfr hkeep
                  exact .inl ⟨wanted_of 2 rfl eg (by kernel_rfl), showsO_pure hsn rfl (.bool true) (by simp only [execOp, Act.eval]; go_simp) rfl⟩
                | 8, hi =>
                  cases (show some _ = some o from hi)
                  have e123 : (f.tmps.getD 123 undef) = .bool true := depS (V := (VK22 n b Q c11 a11)) hdep 2 123 (by decide) (by kernel_rfl)
                  have e128 : (f.tmps.getD 128 undef) = .bool true := depS (V := (VK22 n b Q c11 a11)) hdep 7 128 (by decide) (by kernel_rfl)
                  clear hdep hsame hi hlate hfr hkeep
                  exact .inl ⟨wanted_none rfl, showsO_pure hsn rfl (.bool true) (by simp only [execOp, Act.eval]; go_simp) rfl⟩
                | 9, hi =>
                  cases (show some _ = some o from hi)
                  have e129 : (f.tmps.getD 129 undef) = .bool true := depS (V := (VK22 n b Q c11 a11)) hdep 8 129 (by decide) (by kernel_rfl)
                  clear hdep hsame hi hlate hfr hkeep
                  exact .inl ⟨wanted_none rfl, showsO_move hsn rfl _ rfl e129⟩
                | 10, hi =>
                  cases (show some _ = some o from hi)
                  have e11 : f.tmps.getD 11 undef = .slice a11 (Q + 1) c11 := hlate 11 (earlyS (by kernel_rfl))
                  have eg : f.tmps.getD 130 undef = .bool true := depS (V := (VK22 n b Q c11 a11)) hdep 9 130 (by decide) (by kernel_rfl)
                  clear hdep hsame hi hlate hfr hkeep
                  exact .inl ⟨wanted_of 9 rfl eg (by kernel_rfl), showsO_move hsn rfl _ rfl e11⟩
                | 11, hi =>
                  cases (show some _ = some o from hi)
                  have e131 : (f.tmps.getD 131 undef) = .slice a11 (Q + 1) c11 := depS (V := (VK22 n b Q c11 a11)) hdep 10 131 (by decide) (by kernel_rfl)
                  have eg : f.tmps.getD 130 undef = .bool true := depS (V := (VK22 n b Q c11 a11)) hdep 9 130 (by decide) (by kernel_rfl)
                  clear hdep hsame hi hlate hfr hkeep
                  exact .inl ⟨wanted_of 9 rfl eg (by kernel_rfl), showsO_pure hsn rfl (.int .i64 ((Q + 1 : Nat) : Int)) (by simp only [execOp, Act.eval]; go_simp) rfl⟩
                | 12, hi =>
                  cases (show some _ = some o from hi)
                  have e0 : f.tmps.getD 0 undef = .int .u64 (n : Int) := hlate 0 (earlyS (by kernel_rfl))
                  have eg : f.tmps.getD 130 undef = .bool true := depS (V := (VK22 n b Q c11 a11)) hdep 9 130 (by decide) (by kernel_rfl)
                  clear hdep hsame hi hlate hfr hkeep
                  exact .inl ⟨wanted_of 9 rfl eg (by kernel_rfl), showsO_move hsn rfl _ rfl e0⟩
                | 13, hi =>
                  cases (show some _ = some o from hi)
                  have e133 : (f.tmps.getD 133 undef) = .int .u64 (n : Int) := depS (V := (VK22 n b Q c11 a11)) hdep 12 133 (by decide) (by kernel_rfl)
                  have eg : f.tmps.getD 130 undef = .bool true := depS (V := (VK22 n b Q c11 a11)) hdep 9 130 (by decide) (by kernel_rfl)
                  clear hdep hsame hi hlate hfr hkeep
                  have c := CQ.out u
                  exact .inl ⟨wanted_of 9 rfl eg (by kernel_rfl), showsO_call1 hsn rfl 22 #[.int .u64 (n : Int)] (by simp only [execOp, Act.eval]; go_simp) (c) (fun _ => rfl)⟩
                | 14, hi =>
                  cases (show some _ = some o from hi)
                  have e134 : (f.tmps.getD 134 undef) = .int .i64 (Q : Int) := depS (V := (VK22 n b Q c11 a11)) hdep 13 134 (by decide) (by kernel_rfl)
                  have eg : f.tmps.getD 130 undef = .bool true := depS (V := (VK22 n b Q c11 a11)) hdep 9 130 (by decide) (by kernel_rfl)
                  clear hdep hsame hi hlate hfr hkeep
                  have hl := Q64.out
                  exact .inl ⟨wanted_of 9 rfl eg (by kernel_rfl), showsO_pure hsn rfl (.int .i64 ((Q + 1 : Nat) : Int)) (by simp only [execOp, Act.eval]; go_simp; simp [IntKind.wrap, IntKind.bits, IntKind.signed]; omega) rfl⟩
                | 15, hi =>
                  cases (show some _ = some o from hi)
                  have e132 : (f.tmps.getD 132 undef) = .int .i64 ((Q + 1 : Nat) : Int) := depS (V := (VK22 n b Q c11 a11)) hdep 11 132 (by decide) (by kernel_rfl)
                  have e135 : (f.tmps.getD 135 undef) = .int .i64 ((Q + 1 : Nat) : Int) := depS (V := (VK22 n b Q c11 a11)) hdep 14 135 (by decide) (by kernel_rfl)
                  have eg : f.tmps.getD 130 undef = .bool true := depS (V := (VK22 n b Q c11 a11)) hdep 9 130 (by decide) (by kernel_rfl)
                  clear hdep hsame hi hlate hfr hkeep
                  exact .inl ⟨wanted_of 9 rfl eg (by kernel_rfl), showsO_pure hsn rfl (.bool true) (by simp only [execOp, Act.eval]; go_simp) rfl⟩
                | 16, hi =>
                  cases (show some _ = some o from hi)
                  have e130 : (f.tmps.getD 130 undef) = .bool true := depS (V := (VK22 n b Q c11 a11)) hdep 9 130 (by decide) (by kernel_rfl)
                  have e136 : (f.tmps.getD 136 undef) = .bool true := depS (V := (VK22 n b Q c11 a11)) hdep 15 136 (by decide) (by kernel_rfl)
                  clear hdep hsame hi hlate hfr hkeep
                  exact .inl ⟨wanted_none rfl, showsO_pure hsn rfl (.bool true) (by simp only [execOp, Act.eval]; go_simp) rfl⟩
                | 17, hi =>
                  cases (show some _ = some o from hi)
                  have e137 : (f.tmps.getD 137 undef) = .bool true := depS (V := (VK22 n b Q c11 a11)) hdep 16 137 (by decide) (by kernel_rfl)
                  clear hdep hsame hi hlate hfr hkeep
                  exact .inl ⟨wanted_none rfl, showsO_assign hsn rfl _ rfl e137⟩
                | n + 18, hi => exact absurd hi (by simp)
              intro f w10 own hsame hsn hall
              have q121 : f.tmps.getD 121 undef = .nilIface := finO (V := (VK22 n b Q c11 a11)) hall 0 121 rfl
              have q122 : f.tmps.getD 122 undef = .bool true := finO (V := (VK22 n b Q c11 a11)) hall 1 122 rfl
              have q123 : f.tmps.getD 123 undef = .bool true := finO (V := (VK22 n b Q c11 a11)) hall 2 123 rfl
              have q124 : f.tmps.getD 124 undef = .pointer (some ⟨b, 0, none⟩) := finO (V := (VK22 n b Q c11 a11)) hall 3 124 rfl
              have q125 : f.tmps.getD 125 undef = .int .u64 ((n + 1 : Nat) : Int) := finO (V := (VK22 n b Q c11 a11)) hall 4 125 rfl
              have q126 : f.tmps.getD 126 undef = .int .u64 (n : Int) := finO (V := (VK22 n b Q c11 a11)) hall 5 126 rfl
              have q127 : f.tmps.getD 127 undef = .int .u64 ((n + 1 : Nat) : Int) := finO (V := (VK22 n b Q c11 a11)) hall 6 127 rfl
              have q128 : f.tmps.getD 128 undef = .bool true := finO (V := (VK22 n b Q c11 a11)) hall 7 128 rfl
              have q129 : f.tmps.getD 129 undef = .bool true := finO (V := (VK22 n b Q c11 a11)) hall 8 129 rfl
              have q130 : f.tmps.getD 130 undef = .bool true := finO (V := (VK22 n b Q c11 a11)) hall 9 130 rfl
              have q131 : f.tmps.getD 131 undef = .slice a11 (Q + 1) c11 := finO (V := (VK22 n b Q c11 a11)) hall 10 131 rfl
              have q132 : f.tmps.getD 132 undef = .int .i64 ((Q + 1 : Nat) : Int) := finO (V := (VK22 n b Q c11 a11)) hall 11 132 rfl
              have q133 : f.tmps.getD 133 undef = .int .u64 (n : Int) := finO (V := (VK22 n b Q c11 a11)) hall 12 133 rfl
              have q134 : f.tmps.getD 134 undef = .int .i64 (Q : Int) := finO (V := (VK22 n b Q c11 a11)) hall 13 134 rfl
              have q135 : f.tmps.getD 135 undef = .int .i64 ((Q + 1 : Nat) : Int) := finO (V := (VK22 n b Q c11 a11)) hall 14 135 rfl
              have q136 : f.tmps.getD 136 undef = .bool true := finO (V := (VK22 n b Q c11 a11)) hall 15 136 rfl
              have q137 : f.tmps.getD 137 undef = .bool true := finO (V := (VK22 n b Q c11 a11)) hall 16 137 rfl
              have q6 : f.tmps.getD 6 undef = .bool true := finO (V := (VK22 n b Q c11 a11)) hall 17 6 rfl
              obtain rfl := frame_eq hsame [(121, .nilIface), (122, .bool true), (123, .bool true), (124, .pointer (some ⟨b, 0, none⟩)), (125, .int .u64 ((n + 1 : Nat) : Int)), (126, .int .u64 (n : Int)), (127, .int .u64 ((n + 1 : Nat) : Int)), (128, .bool true), (129, .bool true), (130, .bool true), (131, .slice a11 (Q + 1) c11), (132, .int .i64 ((Q + 1 : Nat) : Int)), (133, .int .u64 (n : Int)), (134, .int .i64 (Q : Int)), (135, .int .i64 ((Q + 1 : Nat) : Int)), (136, .bool true), (137, .bool true), (6, .bool true)] (by kernel_rfl) ⟨q121, q122, q123, q124, q125, q126, q127, q128, q129, q130, q131, q132, q133, q134, q135, q136, q137, q6, trivial⟩
              clear hall hsame q121 q122 q123 q124 q125 q126 q127 q128 q129 q130 q131 q132 q133 q134 q135 q136 q137 q6
              simp only [List.foldl, List.setIfInBounds_toArray, List.set_cons_succ, List.set_cons_zero]
              have hb := hsn.below (B := w9.heap.size) (fun _ _ => rfl) (Nat.le_refl _)
              go_wp2_with fail
              go_ret
              exact ⟨rfl, K9.out.trans (hb.mono K9.out.size)⟩
      · rw [if_pos (by rw [← HL.out]; exact hcnt)] at hP
        subst hP
        have f2 : ((l : Int) == (P : Int)) = false := by rw [beq_eq_false_iff_ne]; omega
        have f3 : (l == P) = false := by rw [beq_eq_false_iff_ne]; omega
        go_wp2_with fail
        refine CC.out.mono ?_
        rintro e w6 ⟨rfl, hb⟩
        have K5 := Bx.mk (K4.out.trans (hb.mono K4.out.size)); have EM5 := Bx.mk (EM4.out.below hb); have HS5 := Bx.mk (HS4.out.below hb); have XN5 := Bx.mk ((hb.block _ (Array.getElem?_eq_some_iff.1 XN4.out).1).trans XN4.out)
        clear hb K4 EM4 HS4 XN4
        go_wp2_with fail
        refine (isE_any EM5.out.hs.err (ErrV.plain 1 (by decide)) 2).mono ?_
        rintro e w7 ⟨rfl, hb⟩
        go_wp2_with fail
        go_ret
        exact ⟨rfl, K5.out.trans (hb.mono K5.out.size)⟩
end Go.Proofs.YtbhcaalelfaceaaDoor
