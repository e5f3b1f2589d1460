/- verify.Root. -/
import Derived.Test.YtmlpldkgennmkaaDoorVa
import Derived.Test.YtmlpldkgennmkaaDoorG6
import Derived.Test.YtmlpldkgennmkaaDoorG5
import Derived.Test.YtmlpldkgennmkaaDoorRetE
namespace Go.Proofs.YtmlpldkgennmkaaDoor
set_option maxRecDepth 100000
open Go.RowKit
theorem btr {N : Nat} {w a b : World} (hN : N = w.heap.size) (h : Below N w a) (k : Below a.heap.size a b) : Below N w b := by subst hN; exact h.trans (k.mono h.size)
theorem hszB {L : List UInt8} (h : L.length = 32) : (Tryd.prog.info? 24).map (·.size) = some (bcells L).length := by rw [bcells_length]; have := hszL h; rwa [ocells_size] at this
def nd (a b : List UInt8) : List UInt8 := sha (1 :: (a ++ b))
theorem nd_length (a b : List UInt8) : (nd a b).length = 32 := sha_length _
theorem climb_length {h : List UInt8} (hh : h.length = 32) : ∀ (ds : List Bool) (ps : List (List UInt8)), (climb nd h ds ps).length = 32
  | [], _ => hh
  | _ :: _, [] => hh
  | d :: ds, p :: ps => climb_length (by unfold climb1; split <;> exact nd_length _ _) ds ps
/-- what verify.Root hands back -/
def errVal (A : Nat → Addr) (k : Nat) : Value := .iface 144 (.pointer (some (A k)))
noncomputable def rootV (A : Nat → Addr) (i s : Nat) (leaf : List UInt8) (ps : List (List UInt8)) : Value :=
  if 9223372036854775808 < s ∨ s ≤ i then .tuple #[hv zero32', errVal A 4]
  else if ps.length = (hdirs i s).length then .tuple #[hv (climb nd leaf (hdirs i s) ps), .nilIface] else .tuple #[hv zero32', errVal A 9]
def VR3 (s : Nat) (leaf : List UInt8) (oi : Nat) (v : Value) (own : Nat → Option Nat) (w : World) : Prop :=
  match oi with
  | 0 => v = .int .u64 (s : Int)
  | 1 => v = .int .u64 ((s : Int) - 1)
  | 2 => v = .agg (ocells leaf)
  | 3 => AllocV own w v 5 24 32
  | 4 => v = .int .u64 ((s : Int) - 1)
  | 5 => StoredV own w 5 24 (ocells leaf)
  | _ => True
def VR3mk : Nat → Option Nat := fun j => match j with | 5 => some 3 | _ => none
theorem VR3_mono (s : Nat) (leaf : List UInt8) (oi oj : Nat) (v : Value) (own : Nat → Option Nat) (w : World) (own' : Nat → Option Nat) (w' : World) (hij : oi ≠ oj) (h : VR3 s leaf oj v own w) (r : Rel VR3mk oi own w own' w') : VR3 s leaf oj v own' w' := by
  unfold VR3 at h ⊢
  split at h
  · exact h
  · exact h
  · exact h
  · exact h.stable r rfl hij
  · exact h
  · exact h.stable r hij
  · trivial

set_option maxHeartbeats 3200000 in
theorem root_any (A : Nat → Addr) (w : World) (i s : Nat) (hi : i < 18446744073709551616) (hs64 : s < 18446744073709551616) (leaf : List UInt8) (hl : leaf.length = 32) (ad : Option Addr) (n cap : Nat) (ps : List (List UInt8)) (hH : Hss w (.slice ad n cap) ps) (hT : Hs A w) :
    Calls Tryd.prog 10 #[.int .u64 (i : Int), .int .u64 (s : Int), hv leaf, .slice ad n cap] w fun e w' => e = .returned (rootV A i s leaf ps) ∧ Below w.heap.size w w' := by
  have x0 := (HashAt.new w leaf hl).below (er_al (Below.refl _ _) (.cells zeros32 24))
  have x1 : ((w.alloc (.cells (ocells leaf) 24)).alloc (.cells zeros32 24)).heap[w.heap.size + 1]? = some (.cells zeros32 24 (0, 0)) := by
    simpa using heap_alloc_new (w.alloc (.cells (ocells leaf) 24)) (.cells zeros32 24)
  have kb : Below w.heap.size w ((w.alloc (.cells (ocells leaf) 24)).alloc (.cells zeros32 24)) := er_al (er_al (Below.refl _ _) _) _
  have wsz : ((w.alloc (.cells (ocells leaf) 24)).alloc (.cells zeros32 24)).heap.size = w.heap.size + 2 := by simp
  have LL := Bx.mk hl; have HT := Bx.mk hT; have HHS := Bx.mk hH
  clear hl hT hH
  unfold hv
  go_enter Tryd.func10, Tryd.ntmps10
  go_upto_region 1 with (fail)
  change Code.wp _ _ _ _ ((w.alloc (.cells (ocells leaf) 24)).alloc (.cells zeros32 24))
  generalize (w.alloc (.cells (ocells leaf) 24)).alloc (.cells zeros32 24) = W at x0 x1 kb wsz ⊢
  obtain ⟨N, hN⟩ : ∃ N, N = w.heap.size := ⟨_, rfl⟩
  rw [← hN] at x0 x1 kb wsz ⊢
  have X0 := Bx.mk x0; have X1 := Bx.mk x1; have KB := Bx.mk kb; have WS := Bx.mk wsz; have HN := Bx.mk hN
  clear x0 x1 kb wsz hN
  have hgl : ∀ k, k < 16 → eg k < N := fun k hk => by have := block_lt_of_cell (HT.out.err.glob k hk); rw [HN.out]; exact this
  have HGL := Bx.mk hgl; clear hgl
  by_cases hbad : 9223372036854775808 < s ∨ s ≤ i
  · have hv : rootV A i s leaf ps = .tuple #[hv zero32', errVal A 4] := by unfold rootV; rw [if_pos hbad]
    have HV := Bx.mk hv
    have hbad' := Bx.mk hbad
    by_cases c1 : (9223372036854775808 : Int) < (s : Int)
    · clear hbad hv
      go_upto_region 2 with (fail)
      refine ret_zero (A := A) ((HT.out.below (HN.out ▸ KB.out)).err) (n := N + 1) X1.out 4 (by decide) (by rw [show eg 4 = 0 from rfl]; have := HGL.out 4 (by decide); omega) (by kernel_rfl) rfl rfl rfl rfl (by decide) rfl _ rfl (fun _ => rfl) _ _ rfl rfl rfl rfl rfl rfl ?_
      intro W' hW'
      have Z1 := Bx.mk ((hW'.block _ (Array.getElem?_eq_some_iff.1 X1.out).1).trans X1.out)
      have Z2 := Bx.mk (btr HN.out KB.out hW')
      clear hW'
      go_simp
      go_wp2_with fail
      exact bodyPost_ret (results_row_tmp rfl _ _ (N + 1) _ zeros32 _ rfl Z1.out (hszL zero32'_length)) rfl ⟨by rw [HV.out]; rfl, HN.out ▸ Z2.out⟩
    · have c2 : (s : Int) ≤ (i : Int) := by omega
      clear hbad hv
      go_upto_region 2 with (fail)
      refine ret_zero (A := A) ((HT.out.below (HN.out ▸ KB.out)).err) (n := N + 1) X1.out 4 (by decide) (by rw [show eg 4 = 0 from rfl]; have := HGL.out 4 (by decide); omega) (by kernel_rfl) rfl rfl rfl rfl (by decide) rfl _ rfl (fun _ => rfl) _ _ rfl rfl rfl rfl rfl rfl ?_
      intro W' hW'
      have Z1 := Bx.mk ((hW'.block _ (Array.getElem?_eq_some_iff.1 X1.out).1).trans X1.out)
      have Z2 := Bx.mk (btr HN.out KB.out hW')
      clear hW'
      go_simp
      go_wp2_with fail
      exact bodyPost_ret (results_row_tmp rfl _ _ (N + 1) _ zeros32 _ rfl Z1.out (hszL zero32'_length)) rfl ⟨by rw [HV.out]; rfl, HN.out ▸ Z2.out⟩
  · have c1 : ¬ (9223372036854775808 : Int) < (s : Int) := by omega
    have c2 : ¬ (s : Int) ≤ (i : Int) := by omega
    have d1 : IntKind.u64.wrap ((s : Int) - 1) = (s : Int) - 1 := by simp [IntKind.wrap, IntKind.bits, IntKind.signed]; omega
    have hsz : 0 < s := by omega
    go_upto_region 3 with (fail)
    refine wp_region_own (n := 66) VR3mk (fun _ => none) (VR3 s leaf) (by kernel_rfl) (by kernel_rfl) rfl ?_ ?_ (VR3_mono s leaf) ?_ ?_
    · exact fun _ _ => rfl
    · exact fun _ _ _ _ h => by cases h
    · intro oi o hi f u own hsame hsn hfr hdep
      have hx0 := (hsn.keep N X0.out.lt rfl).trans X0.out.1
      match oi, hi with
      | 0, hi =>
        cases (show some _ = some o from hi)
        have e1 : f.tmps.getD 1 undef = .int .u64 (s : Int) := hsame.slot 1 (fun i o h => invB2_not 1 (by kernel_rfl) h)
        clear hdep hsame hi hfr
        exact ⟨wanted_none rfl, showsO_move hsn rfl _ rfl e1⟩
      | 1, hi =>
        cases (show some _ = some o from hi)
        have e23 : f.tmps.getD 23 undef = .int .u64 (s : Int) := depO (V := (VR3 s leaf)) hdep 0 23 (by kernel_rfl) (by kernel_rfl)
        clear hdep hsame hi hfr
        exact ⟨wanted_none rfl, showsO_pure hsn rfl (.int .u64 ((s : Int) - 1)) (by simp only [execOp, Act.eval]; go_simp) rfl⟩
      | 2, hi =>
        cases (show some _ = some o from hi)
        have e6 : f.tmps.getD 6 undef = .pointer (some ⟨N, 0, none⟩) := hsame.slot 6 (fun i o h => invB2_not 6 (by kernel_rfl) h)
        clear hdep hsame hi hfr
        exact ⟨wanted_none rfl, showsO_row hsn rfl 24 (.tmp 6) rfl N e6 (ocells leaf) hx0 underH rfl (hszL LL.out) rfl⟩
      | 3, hi =>
        cases (show some _ = some o from hi)
        clear hdep hsame hi
        exact ⟨wanted_none rfl, showsO_alloc hsn hfr rfl zeros32 24 5 rfl (by simp only [execOp, Act.eval]; go_simp; rfl) (fun h => h)⟩
      | 4, hi =>
        cases (show some _ = some o from hi)
        have e24 : f.tmps.getD 24 undef = .int .u64 ((s : Int) - 1) := depO (V := (VR3 s leaf)) hdep 1 24 (by kernel_rfl) (by kernel_rfl)
        clear hdep hsame hi hfr
        exact ⟨wanted_none rfl, showsO_assign hsn rfl _ rfl e24⟩
      | 5, hi =>
        cases (show some _ = some o from hi)
        have e11 : AllocV own u (f.tmps.getD 11 undef) 5 24 32 := depO (V := (VR3 s leaf)) hdep 3 11 (by kernel_rfl) (by kernel_rfl)
        have e25 : f.tmps.getD 25 undef = .agg (ocells leaf) := depO (V := (VR3 s leaf)) hdep 2 25 (by kernel_rfl) (by kernel_rfl)
        clear hdep hsame hi hfr
        exact ⟨wanted_none rfl, showsO_store_alloc hsn rfl 24 (.tmp 11) (.tmp 25) rfl e11 (ocells leaf) e25 (hszL LL.out) (by rw [ocells_size, LL.out]) (ocells_one _) (fun _ h => h)⟩
      | n + 6, hi => exact absurd hi (by simp)
    · intro f u own hsame hsn hall
      have q23 : f.tmps.getD 23 undef = .int .u64 (s : Int) := finO (V := (VR3 s leaf)) hall 0 23 rfl
      have q24 : f.tmps.getD 24 undef = .int .u64 ((s : Int) - 1) := finO (V := (VR3 s leaf)) hall 1 24 rfl
      have q25 : f.tmps.getD 25 undef = .agg (ocells leaf) := finO (V := (VR3 s leaf)) hall 2 25 rfl
      obtain ⟨g11, q11, o11, m11⟩ := AllocV.stored (finO (V := (VR3 s leaf)) hall 3 11 rfl) (finN (V := (VR3 s leaf)) hall 5 rfl)
      have q10 : f.tmps.getD 10 undef = .int .u64 ((s : Int) - 1) := finO (V := (VR3 s leaf)) hall 4 10 rfl
      obtain rfl := frame_eq hsame [(23, .int .u64 (s : Int)), (24, .int .u64 ((s : Int) - 1)), (25, .agg (ocells leaf)), (11, .pointer (some ⟨g11, 0, none⟩)), (10, .int .u64 ((s : Int) - 1))] (by kernel_rfl) ⟨q23, q24, q25, q11, q10, trivial⟩
      clear hall hsame q23 q24 q25 q11 q10
      simp only [List.foldl, List.setIfInBounds_toArray, List.set_cons_succ, List.set_cons_zero]
      have hbel : Below N w u := KB.out.trans ((hsn.below (B := N + 2) (fun _ _ => rfl) (Nat.le_of_eq WS.out.symm)).mono (by omega))
      have hx1 := (hsn.keep (N + 1) (Array.getElem?_eq_some_iff.1 X1.out).1 rfl).trans X1.out
      have hg : N + 2 ≤ g11 := by have := hsn.ge o11 (fun _ _ h => by cases h); rw [WS.out] at this; exact this
      have HX1 := Bx.mk hx1; have HM := Bx.mk m11; have HB := Bx.mk hbel; have HG := Bx.mk hg
      clear hx1 m11 o11 hbel hg hsn d1 X0 X1 KB WS
      have hN2 := HHS.out.len
      obtain ⟨L, hL⟩ : ∃ L, L = s - 1 := ⟨_, rfl⟩
      have hLs : ((s : Int) - 1) = (L : Int) := by omega
      rw [hLs]
      have HL := Bx.mk hL
      have hLn : L < 18446744073709551616 := by omega
      have hn : n = ps.length := by obtain ⟨_, _, e, _⟩ := hN2; cases e; rfl
      subst hn
      have HBAD := Bx.mk hbad
      clear hN2 hL hLs hs64 hsz hbad c1 c2
      go_upto_block 26 with (fail)
      go_loopw [0, 10, 13, 28] (fun ii ll _ cc wr => ∃ (t p q : Nat) (taken : List Bool), t ≤ ps.length ∧ p < 18446744073709551616 ∧ q < 18446744073709551616 ∧ ii = .int .u64 (p : Int) ∧ ll = .int .u64 (q : Int) ∧ cc = .int .i64 (t : Int) ∧ taken.length = t ∧ dirs i L = taken ++ dirs p q ∧
          HashAt wr g11 (climb nd leaf taken (ps.take t)) ∧ Below N w wr ∧ wr.heap[N + 1]? = some (.cells zeros32 24 (0, 0))) (fun _ _ _ cc _ => ps.length - (intOf cc).toNat)
      case atStart => exact ⟨0, i, L, [], Nat.zero_le _, hi, hLn, rfl, rfl, rfl, rfl, rfl, ⟨HM.out, LL.out⟩, HB.out, HX1.out⟩
      case round =>
        obtain ⟨t, p, q, taken, ht, hp, hq, rfl, rfl, rfl, htl, hd, hM, hB, hX1⟩ := hrel
        have HTL := Bx.mk htl; have HD := Bx.mk hd; have M1 := Bx.mk hM; have B1 := Bx.mk hB; have X1 := Bx.mk hX1
        clear htl hd hM hB hX1 HM HB HX1
        by_cases hlt : t < ps.length
        · have hH1 := HHS.out.below (HN.out ▸ B1.out)
          obtain ⟨_, hc1, hc2, Ba, off, rfl, hBl, hr, hpl⟩ := hH1.at t hlt
          have R1 := Bx.mk hr; have PL := Bx.mk hpl; have BL := Bx.mk hBl
          clear hr hpl hBl hH1
          by_cases hq0 : q = 0
          · have hv : rootV A i s leaf ps = .tuple #[hv zero32', errVal A 9] := by
              unfold rootV
              have h1 : (hdirs i s).length = t := by
                rw [← dirs_hdirs s i (by have := HBAD.out; omega), ← HL.out, HD.out, hq0, dirs_zero, List.append_nil, HTL.out]
              rw [if_neg HBAD.out, if_neg (by rw [h1]; omega)]
            have HV := Bx.mk hv
            subst hq0
            clear hv
            go_upto_region 7 with (first
              | (guard_target =~ wpList _ _ _ (⟨some 31, _, _, _, _, _⟩ :: _) _ _; refine wpList_load_mid rfl 24 (.tmp 30) rfl Ba (off + t * 32) rfl (bcells ps[t]) _ R1.out underH rfl (hszB PL.out) ?_)
              | (guard_target =~ wpList _ _ _ (⟨none, _, _, _, _, _⟩ :: _) _ _; refine wpList_store_row rfl 24 (.tmp 13) (.tmp 31) rfl wr.heap.size (ocells ps[t]) rfl rfl _ zeros32 (heap_alloc_new _ _) (hszL PL.out) (hsoL PL.out) (ocells_one _) ?_; rw [setRow_alloc_new _ _ _ _ _ rfl]))
            have x13 := HashAt.new wr ps[t] PL.out
            have b13 := er_al (Below.refl wr.heap.size wr) (.cells (ocells ps[t]) 24)
            generalize wr.alloc (.cells (ocells ps[t]) 24) = w2 at x13 b13 ⊢
            have x1 := (b13.block _ (Array.getElem?_eq_some_iff.1 X1.out).1).trans X1.out
            have B2 := Bx.mk (btr HN.out B1.out b13); have Y1 := Bx.mk x1
            clear x13 b13 x1
            go_upto_region 8 with (fail)
            refine ret_zero (A := A) ((HT.out.below (HN.out ▸ B2.out)).err) (n := N + 1) Y1.out 9 (by decide) (by rw [show eg 9 = 1 from rfl]; have := HGL.out 9 (by decide); omega) (by kernel_rfl) rfl rfl rfl rfl (by decide) rfl _ rfl (fun _ => rfl) _ _ rfl rfl rfl rfl rfl rfl ?_
            intro W' hW'
            have Z1 := Bx.mk ((hW'.block _ (Array.getElem?_eq_some_iff.1 Y1.out).1).trans Y1.out)
            have Z2 := Bx.mk (btr HN.out B2.out hW')
            clear hW'
            go_simp
            go_wp2_with fail
            exact bodyPost_ret (results_row_tmp rfl _ _ (N + 1) _ zeros32 _ rfl Z1.out (hszL zero32'_length)) rfl ⟨by rw [HV.out]; rfl, HN.out ▸ Z2.out⟩
          · have hq0' : ¬ (q : Int) = 0 := by omega
            have hq0'' : ((q : Int) == 0) = false := by simpa using hq0
            have HQ0 := Bx.mk hq0
            clear hq0
            go_upto_region 7 with (first
              | (guard_target =~ wpList _ _ _ (⟨some 31, _, _, _, _, _⟩ :: _) _ _; refine wpList_load_mid rfl 24 (.tmp 30) rfl Ba (off + t * 32) rfl (bcells ps[t]) _ R1.out underH rfl (hszB PL.out) ?_)
              | (guard_target =~ wpList _ _ _ (⟨none, _, _, _, _, _⟩ :: _) _ _; refine wpList_store_row rfl 24 (.tmp 13) (.tmp 31) rfl wr.heap.size (ocells ps[t]) rfl rfl _ zeros32 (heap_alloc_new _ _) (hszL PL.out) (hsoL PL.out) (ocells_one _) ?_; rw [setRow_alloc_new _ _ _ _ _ rfl]))
            have x13 := HashAt.new wr ps[t] PL.out
            have b13 := er_al (Below.refl wr.heap.size wr) (.cells (ocells ps[t]) 24)
            generalize wr.alloc (.cells (ocells ps[t]) 24) = w2 at x13 b13 ⊢
            have x1 := (b13.block _ (Array.getElem?_eq_some_iff.1 X1.out).1).trans X1.out
            have m1 := M1.out.below b13
            have g13 : g11 < wr.heap.size := M1.out.lt
            generalize wr.heap.size = n13 at x13 g13 ⊢
            have B2 := Bx.mk (btr HN.out B1.out b13); have Y1 := Bx.mk x1; have M2 := Bx.mk m1; have X13 := Bx.mk x13
            clear x13 b13 x1 m1 X1 M1 B1
            have hpt : ps.take (t + 1) = ps.take t ++ [ps[t]] := List.take_succ_eq_append_getElem hlt
            have htl2 : (ps.take t).length = t := by simp; omega
            have HPT := Bx.mk hpt; have HTL2 := Bx.mk htl2
            clear hpt htl2
            generalize hpx : ps[t] = px at X13 HPT
            have PX := Bx.mk (show px.length = 32 by rw [← hpx]; exact PL.out)
            clear hpx R1 PL BL
            have hml := M2.out.2
            have snoc := fun d => climb_snoc nd taken (ps.take t) (by rw [HTL.out, HTL2.out]) leaf d px
            generalize climb nd leaf taken (ps.take t) = mh at M2 hml snoc
            have HML := Bx.mk hml; have SN := Bx.mk snoc; clear hml snoc
            have hle := upN_le p q
            have hu := fun u => up_any u p q hp hq
            generalize hup : upN p q = uu at hle hu
            have HUP := Bx.mk hup; have HU := Bx.mk hu; clear hup hu
            have ha := and_one p hp
            have rnd : ∀ d p' q' w3, HashAt w3 g11 (climb1 nd d mh px) → dirs p q = d :: dirs p' q' → Bx (HashAt w3 g11 (climb nd leaf (taken ++ [d]) (ps.take (t + 1))) ∧ dirs i L = (taken ++ [d]) ++ dirs p' q' ∧ (taken ++ [d]).length = t + 1) := fun d p' q' w3 h1 h2 =>
              ⟨by rw [HPT.out, SN.out]; exact h1, by rw [HD.out, h2]; simp, by rw [List.length_append, HTL.out]; rfl⟩
            have RND := Bx.mk rnd; clear rnd
            have key : ∀ w3, HashAt w3 g11 mh → HashAt w3 n13 px → ∀ v : List UInt8, v.length = 32 → Bx (HashAt (w3.setRow g11 (ocells v)) g11 v) := fun w3 h1 _ v hv => ⟨setRow_heap _ _ _ _ _ _ h1.1, hv⟩
            have KEY := Bx.mk key; clear key
            by_cases hcase : p % 2 = 1 ∨ p = q
            · have hd := dirs_true HQ0.out hcase
              rw [HUP.out] at hd
              have HD2 := Bx.mk hd; clear hd
              have nda := fun u hu => node_any u px mh PX.out HML.out hu
              rw [hv_agg, hv_agg, hv_agg, show sha (1 :: (px ++ mh)) = nd px mh from rfl] at nda
              have NDA := Bx.mk nda; clear nda
              have HC := Bx.mk hcase
              have ends : Bx (∀ w4 : World, True) := ⟨fun _ => trivial⟩
              by_cases hodd : p % 2 = 1
              · rw [hodd] at ha
                clear hcase hodd
                go_wp2_with (first
                  | (guard_target =~ wpList _ _ _ (⟨some 44, _, _, _, _, _⟩ :: _) _ _; refine wpList_load_row rfl 24 (.tmp 13) rfl n13 rfl _ _ _ _ X13.out.1 underH rfl (hszL PX.out) ?_)
                  | (guard_target =~ wpList _ _ _ (⟨some 45, _, _, _, _, _⟩ :: _) _ _; refine wpList_load_row rfl 24 (.tmp 11) rfl g11 rfl _ _ _ _ M2.out.1 underH rfl (hszL HML.out) ?_))
                refine (NDA.out w2 (HT.out.below (HN.out ▸ B2.out)).tab).mono ?_
                rintro e w3 ⟨rfl, hb⟩
                have m3 := M2.out.below hb
                have y3 := (hb.block _ (Array.getElem?_eq_some_iff.1 Y1.out).1).trans Y1.out
                have B3 := Bx.mk (btr HN.out B2.out hb); have M3 := Bx.mk m3; have Y3 := Bx.mk y3
                clear hb m3 y3
                go_wp2_with (guard_target =~ wpList _ _ _ (⟨none, _, _, _, _, _⟩ :: _) _ _; refine wpList_store_row rfl 24 (.tmp 11) (.tmp 46) rfl g11 (ocells (nd px mh)) rfl rfl _ _ M3.out.1 (hszL (nd_length _ _)) (by rw [ocells_size, ocells_size, HML.out, nd_length]) (ocells_one _) ?_)
                refine (HU.out _).mono ?_
                rintro e w4 ⟨rfl, rfl⟩
                go_wp2_with fail
                go_roundw
                case rel =>
                  have R := RND.out true (uu.1 / 2) (uu.2 / 2) (w3.setRow g11 (ocells (nd px mh))) ⟨setRow_heap _ _ _ _ _ _ M3.out.1, nd_length _ _⟩ HD2.out
                  refine ⟨t + 1, uu.1 / 2, uu.2 / 2, taken ++ [true], hlt, by omega, by omega, by go_num, by go_num, by go_num, R.out.2.2, R.out.2.1, R.out.1, below_setRow B3.out (by have := HG.out; omega) _, ?_⟩
                  rw [heap_setRow_other _ _ _ _ (by have := HG.out; omega)]; exact Y3.out
                case measure => simp [intOf]; omega
              · have hpq : p = q := by omega
                rw [show p % 2 = 0 by omega] at ha
                clear hcase hodd
                subst hpq
                go_wp2_with (first
                  | (guard_target =~ wpList _ _ _ (⟨some 44, _, _, _, _, _⟩ :: _) _ _; refine wpList_load_row rfl 24 (.tmp 13) rfl n13 rfl _ _ _ _ X13.out.1 underH rfl (hszL PX.out) ?_)
                  | (guard_target =~ wpList _ _ _ (⟨some 45, _, _, _, _, _⟩ :: _) _ _; refine wpList_load_row rfl 24 (.tmp 11) rfl g11 rfl _ _ _ _ M2.out.1 underH rfl (hszL HML.out) ?_))
                refine (NDA.out w2 (HT.out.below (HN.out ▸ B2.out)).tab).mono ?_
                rintro e w3 ⟨rfl, hb⟩
                have m3 := M2.out.below hb
                have y3 := (hb.block _ (Array.getElem?_eq_some_iff.1 Y1.out).1).trans Y1.out
                have B3 := Bx.mk (btr HN.out B2.out hb); have M3 := Bx.mk m3; have Y3 := Bx.mk y3
                clear hb m3 y3
                go_wp2_with (guard_target =~ wpList _ _ _ (⟨none, _, _, _, _, _⟩ :: _) _ _; refine wpList_store_row rfl 24 (.tmp 11) (.tmp 46) rfl g11 (ocells (nd px mh)) rfl rfl _ _ M3.out.1 (hszL (nd_length _ _)) (by rw [ocells_size, ocells_size, HML.out, nd_length]) (ocells_one _) ?_)
                refine (HU.out _).mono ?_
                rintro e w4 ⟨rfl, rfl⟩
                go_wp2_with fail
                go_roundw
                case rel =>
                  have R := RND.out true (uu.1 / 2) (uu.2 / 2) (w3.setRow g11 (ocells (nd px mh))) ⟨setRow_heap _ _ _ _ _ _ M3.out.1, nd_length _ _⟩ HD2.out
                  refine ⟨t + 1, uu.1 / 2, uu.2 / 2, taken ++ [true], hlt, by omega, by omega, by go_num, by go_num, by go_num, R.out.2.2, R.out.2.1, R.out.1, below_setRow B3.out (by have := HG.out; omega) _, ?_⟩
                  rw [heap_setRow_other _ _ _ _ (by have := HG.out; omega)]; exact Y3.out
                case measure => simp [intOf]; omega
            · have hd := dirs_false HQ0.out hcase
              have HD2 := Bx.mk hd
              have nda := fun u hu => node_any u mh px HML.out PX.out hu
              rw [hv_agg, hv_agg, hv_agg, show sha (1 :: (mh ++ px)) = nd mh px from rfl] at nda
              have NDA := Bx.mk nda
              rw [show p % 2 = 0 by omega] at ha
              have hpq' : ¬ (p : Int) = (q : Int) := by omega
              have hpq'' : ((p : Int) == (q : Int)) = false := by simp; omega
              clear hd nda hcase
              go_wp2_with (first
                | (guard_target =~ wpList _ _ _ (⟨some 53, _, _, _, _, _⟩ :: _) _ _; refine wpList_load_row rfl 24 (.tmp 11) rfl g11 rfl _ _ _ _ M2.out.1 underH rfl (hszL HML.out) ?_)
                | (guard_target =~ wpList _ _ _ (⟨some 54, _, _, _, _, _⟩ :: _) _ _; refine wpList_load_row rfl 24 (.tmp 13) rfl n13 rfl _ _ _ _ X13.out.1 underH rfl (hszL PX.out) ?_))
              refine (NDA.out w2 (HT.out.below (HN.out ▸ B2.out)).tab).mono ?_
              rintro e w3 ⟨rfl, hb⟩
              have m3 := M2.out.below hb
              have y3 := (hb.block _ (Array.getElem?_eq_some_iff.1 Y1.out).1).trans Y1.out
              have B3 := Bx.mk (btr HN.out B2.out hb); have M3 := Bx.mk m3; have Y3 := Bx.mk y3
              clear hb m3 y3
              go_wp2_with (guard_target =~ wpList _ _ _ (⟨none, _, _, _, _, _⟩ :: _) _ _; refine wpList_store_row rfl 24 (.tmp 11) (.tmp 55) rfl g11 (ocells (nd mh px)) rfl rfl _ _ M3.out.1 (hszL (nd_length _ _)) (by rw [ocells_size, ocells_size, HML.out, nd_length]) (ocells_one _) ?_)
              clear ha hpq' hpq''
              go_roundw
              case rel =>
                have R := RND.out false (p / 2) (q / 2) (w3.setRow g11 (ocells (nd mh px))) ⟨setRow_heap _ _ _ _ _ _ M3.out.1, nd_length _ _⟩ HD2.out
                refine ⟨t + 1, p / 2, q / 2, taken ++ [false], hlt, by omega, by omega, by go_num, by go_num, by go_num, R.out.2.2, R.out.2.1, R.out.1, below_setRow B3.out (by have := HG.out; omega) _, ?_⟩
                rw [heap_setRow_other _ _ _ _ (by have := HG.out; omega)]; exact Y3.out
              case measure => simp [intOf]; omega
        · have hts : t = ps.length := by omega
          have htk : ps.take t = ps := by rw [hts, List.take_length]
          rw [htk] at M1
          have HTS := Bx.mk hts
          clear hts htk
          by_cases hq0 : q = 0
          · have hv : rootV A i s leaf ps = .tuple #[hv (climb nd leaf taken ps), .nilIface] := by
              unfold rootV
              have h1 : hdirs i s = taken := by
                rw [← dirs_hdirs s i (by have := HBAD.out; omega), ← HL.out, HD.out, hq0, dirs_zero, List.append_nil]
              rw [if_neg HBAD.out, h1, if_pos (by rw [HTL.out, HTS.out])]
            have hml := M1.out.2
            generalize climb nd leaf taken ps = mh at M1 hml hv
            have HV := Bx.mk hv; have HML := Bx.mk hml
            subst hq0
            clear hv hml
            go_wp2_with (first
              | (guard_target =~ wpList _ _ _ (⟨some 65, _, _, _, _, _⟩ :: _) _ _; refine wpList_load_row rfl 24 (.tmp 11) rfl g11 rfl _ _ _ _ M1.out.1 underH rfl (hszL HML.out) ?_)
              | (guard_target =~ wpList _ _ _ (⟨none, _, _, _, _, _⟩ :: _) _ _; refine wpList_store_row rfl 24 (.tmp 8) (.tmp 65) rfl (N + 1) (ocells mh) rfl rfl _ _ X1.out (hszL HML.out) (hsoL HML.out) (ocells_one _) ?_))
            exact bodyPost_ret (results_row_tmp rfl _ _ (N + 1) _ (ocells mh) _ rfl (setRow_heap _ _ _ _ _ _ X1.out) (hszL HML.out)) rfl ⟨by rw [HV.out]; rfl, HN.out ▸ below_setRow B1.out (Nat.le_succ _) _⟩
          · have hv : rootV A i s leaf ps = .tuple #[hv zero32', errVal A 9] := by
              unfold rootV
              have h1 : (hdirs i s).length ≠ t := by
                rw [← dirs_hdirs s i (by have := HBAD.out; omega), ← HL.out, HD.out, List.length_append, HTL.out]
                have : dirs p q ≠ [] := by rw [dirs, dif_neg hq0]; split <;> simp
                have := List.length_pos_iff.2 this
                omega
              rw [if_neg HBAD.out, if_neg (by rw [← HTS.out]; exact fun e => h1 e.symm)]
            have HV := Bx.mk hv
            have hq0' : ¬ (q : Int) = 0 := by omega
            have hq0'' : ((q : Int) == 0) = false := by simpa using hq0
            clear hv
            go_upto_region 17 with (fail)
            refine ret_zero (A := A) ((HT.out.below (HN.out ▸ B1.out)).err) (n := N + 1) X1.out 9 (by decide) (by rw [show eg 9 = 1 from rfl]; have := HGL.out 9 (by decide); omega) (by kernel_rfl) rfl rfl rfl rfl (by decide) rfl _ rfl (fun _ => rfl) _ _ rfl rfl rfl rfl rfl rfl ?_
            intro W' hW'
            have Z1 := Bx.mk ((hW'.block _ (Array.getElem?_eq_some_iff.1 X1.out).1).trans X1.out)
            have Z2 := Bx.mk (btr HN.out B1.out hW')
            clear hW'
            go_simp
            go_wp2_with fail
            exact bodyPost_ret (results_row_tmp rfl _ _ (N + 1) _ zeros32 _ rfl Z1.out (hszL zero32'_length)) rfl ⟨by rw [HV.out]; rfl, HN.out ▸ Z2.out⟩
end Go.Proofs.YtmlpldkgennmkaaDoor
