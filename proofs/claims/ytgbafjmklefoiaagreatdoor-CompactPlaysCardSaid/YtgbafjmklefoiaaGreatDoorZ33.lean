/- (*compact.Range).Join. -/
import Derived.Test.YtgbafjmklefoiaaGreatDoorZ17
namespace Go.Proofs.YtgbafjmklefoiaaGreatDoor
set_option maxRecDepth 100000
open Go.RowKit
theorem foldl_push_len : ∀ (ns l : List (Nat × Nat × List UInt8)), (ns.foldl pushN l).length ≤ l.length + ns.length
  | [], l => Nat.le_refl _
  | x :: ns, l => by
    have h1 := foldl_push_len ns (pushN l x)
    have h2 := pushN_len l x
    rw [List.foldl_cons, List.length_cons]
    omega
theorem foldl_push_take {ns l : List (Nat × Nat × List UInt8)} {t : Nat} (h : t < ns.length) : (ns.take (t + 1)).foldl pushN l = pushN ((ns.take t).foldl pushN l) (ns[t]) := by
  rw [List.take_succ_eq_append_getElem h, List.foldl_append]; rfl
def VI3 (r q E : Nat) (oi : Nat) (v : Value) (_own : Nat → Option Nat) (_w : World) : Prop :=
  match oi with
  | 0 => v = .pointer (some ⟨q, 0, none⟩)
  | 1 => v = .pointer (some ⟨q, 0, none⟩)
  | 2 => v = .pointer (some ⟨q, 1, none⟩)
  | 3 => v = .pointer (some ⟨q, 1, none⟩)
  | 4 => v = .int .u64 (E : Int)
  | 5 => v = .pointer (some ⟨r, 0, none⟩)
  | 6 => v = .pointer (some ⟨r, 0, none⟩)
  | 7 => v = .pointer (some ⟨r, 1, none⟩)
  | 8 => v = .pointer (some ⟨r, 2, none⟩)
  | 9 => v = .int .u64 (E : Int)
  | 10 => v = .bool false
  | _ => True
def VI3mk : Nat → Option Nat := fun _ => none
theorem VI3_mono (r q E : Nat) (oi oj : Nat) (v : Value) (own : Nat → Option Nat) (w : World) (own' : Nat → Option Nat) (w' : World) (hij : oi ≠ oj)   (h : VI3 r q E oj v own w) (_r1 : Rel VI3mk oi own w own' w') : VI3 r q E oj v own' w' := by
  unfold VI3 at h ⊢
  split at h
  · exact h
  · exact h
  · exact h
  · exact h
  · exact h
  · exact h
  · exact h
  · exact h
  · exact h
  · exact h
  · exact h
  · trivial

def VI7 (t _m _tc Bq oq : Nat) (x : Nat × Nat × List UInt8) (oi : Nat) (v : Value) (own : Nat → Option Nat) (w : World) : Prop :=
  match oi with
  | 0 => v = .pointer (some ⟨Bq, oq + t * 34, none⟩)
  | 1 => v = .agg (ncell x)
  | 2 => AllocV own w v 3 105 34
  | 3 => StoredV own w 3 105 (ncell x)
  | _ => True
def VI7mk : Nat → Option Nat := fun j => match j with | 3 => some 2 | _ => none
theorem VI7_mono (t m tc Bq oq : Nat) (x : Nat × Nat × List UInt8) (oi oj : Nat) (v : Value) (own : Nat → Option Nat) (w : World) (own' : Nat → Option Nat) (w' : World) (hij : oi ≠ oj)   (h : VI7 t m tc Bq oq x oj v own w) (r : Rel VI7mk oi own w own' w') : VI7 t m tc Bq oq x oj v own' w' := by
  unfold VI7 at h ⊢
  split at h
  · exact h
  · exact h
  · exact h.stable r rfl hij
  · exact h.stable r hij
  · trivial

set_option maxHeartbeats 1600000 in
theorem rjoin_any (base : Nat) (w : World) (r B E : Nat) (l : List (Nat × Nat × List UInt8)) (s : Value) (hR : RaP base w r B E l s) (base2 q E2 : Nat) (ns : List (Nat × Nat × List UInt8)) (t : Value) (hQ : RaP base2 w q E E2 ns t)
    (hap : ∀ k, RaS r s k → ¬ RaS q t k) (hT : ∀ u, Below base w u → TabS u) (hbase : base ≤ w.heap.size) (hm : l.length + ns.length ≤ 1000) :
    Calls Tryz.prog 20 #[.pointer (some ⟨r, 0, none⟩), .pointer (some ⟨q, 0, none⟩)] w fun e w' => e = .returned .nilIface ∧ PuL base w w' r B E2 (ns.foldl pushN l) s := by
  obtain ⟨ta, tc, hs, htn, htm, hta⟩ := own_shape hQ.own
  subst hs
  have HAP := Bx.mk hap; have HT := Bx.mk hT; have HB := Bx.mk hbase; have LM := Bx.mk hm
  have GE : Bx (∀ k, RaS r s k → base ≤ k) := ⟨fun k hk => hR.ge k hk⟩
  have NS0 : Bx (∀ k, RaS r s k → k < w.heap.size) := ⟨fun k hk => hR.lt k hk⟩
  have NQ0 : Bx (∀ k, RaS q (.slice ta ns.length tc) k → k < w.heap.size) := ⟨fun k hk => hQ.lt k hk⟩
  have N32 := Bx.mk hQ.h32
  clear htn htm hta hap hT hbase hm
  go_enter Tryz.func20, Tryz.ntmps20
  have R0 := Bx.mk hR; have Q0 := Bx.mk hQ
  clear hR hQ
  go_wp2_with fail
  refine (there_any R0.out).mono ?_
  rintro e W1 ⟨rfl, hb⟩
  have K1 := Bx.mk hb; have R1 := Bx.mk (R0.out.below hb); have Q1 := Bx.mk (Q0.out.below hb)
  clear hb R0 Q0
  go_wp2_with fail
  refine (there_any Q1.out).mono ?_
  rintro e W ⟨rfl, hb⟩
  have K2 := Bx.mk (K1.out.trans (hb.mono K1.out.size)); have R2 := Bx.mk (R1.out.below hb); have Q2 := Bx.mk (Q1.out.below hb)
  clear hb R1 Q1 K1
  have XR := Bx.mk R2.out.hb; have XQ := Bx.mk Q2.out.hb
  go_upto_region 3 with (fail)
  refine wp_region_own8 (n := 50) VI3mk (fun _ => none) (VI3 r q E) (by kernel_rfl) (by kernel_rfl) rfl (fun _ _ => rfl) (fun j i hj _ => by cases hj) ?_ ?_ ?_
  · exact fun oi oj v own w own' w' hij _ h r1 => VI3_mono r q E oi oj v own w own' w' hij h r1
  · intro oi o hi f u own hsame hsn hfr hlate hkeep8 hdep
    have hkeep := hkeep8 _ (.inl rfl)
    have hb6 := hsn.below (B := W.heap.size) (fun _ _ => rfl) (Nat.le_refl _)
    match oi, hi with
    | 0, hi =>
      cases (show some _ = some o from hi)
      have e1 : f.tmps.getD 1 undef = .pointer (some ⟨q, 0, none⟩) := hsame.slot 1 (fun i o h => invB2_not 1 (by kernel_rfl) h)
      clear hdep hsame hi hlate hfr hkeep
      exact .inl ⟨wanted_none rfl, showsO_move hsn rfl _ rfl e1⟩
    | 1, hi =>
      cases (show some _ = some o from hi)
      have e16 : (f.tmps.getD 16 undef) = .pointer (some ⟨q, 0, none⟩) := depO (V := (VI3 r q E)) hdep 0 16 (by kernel_rfl) (by kernel_rfl)
      clear hdep hsame hi hlate hfr hkeep
      exact .inl ⟨wanted_none rfl, showsO_pure hsn rfl (.pointer (some ⟨q, 0, none⟩)) (by simp only [execOp, Act.eval]; go_simp) rfl⟩
    | 2, hi =>
      cases (show some _ = some o from hi)
      have e17 : (f.tmps.getD 17 undef) = .pointer (some ⟨q, 0, none⟩) := depO (V := (VI3 r q E)) hdep 1 17 (by kernel_rfl) (by kernel_rfl)
      clear hdep hsame hi hlate hfr hkeep
      exact .inl ⟨wanted_none rfl, showsO_pure hsn rfl (.pointer (some ⟨q, 1, none⟩)) (by simp only [execOp, Act.eval]; go_simp) rfl⟩
    | 3, hi =>
      cases (show some _ = some o from hi)
      have e18 : (f.tmps.getD 18 undef) = .pointer (some ⟨q, 1, none⟩) := depO (V := (VI3 r q E)) hdep 2 18 (by kernel_rfl) (by kernel_rfl)
      clear hdep hsame hi hlate hfr hkeep
      exact .inl ⟨wanted_none rfl, showsO_pure hsn rfl (.pointer (some ⟨q, 1, none⟩)) (by simp only [execOp, Act.eval]; go_simp) rfl⟩
    | 4, hi =>
      cases (show some _ = some o from hi)
      have e19 : (f.tmps.getD 19 undef) = .pointer (some ⟨q, 1, none⟩) := depO (V := (VI3 r q E)) hdep 3 19 (by kernel_rfl) (by kernel_rfl)
      clear hdep hsame hi hlate hfr hkeep
      have c20 := er_cellAt ((hb6.block _ (Array.getElem?_eq_some_iff.1 XQ.out).1).trans XQ.out) (1) _ rfl
      exact .inl ⟨wanted_none rfl, showsO_pure hsn rfl (.int .u64 (E : Int)) (by simp only [execOp, Act.eval]; go_simp) rfl⟩
    | 5, hi =>
      cases (show some _ = some o from hi)
      have e0 : f.tmps.getD 0 undef = .pointer (some ⟨r, 0, none⟩) := hsame.slot 0 (fun i o h => invB2_not 0 (by kernel_rfl) h)
      clear hdep hsame hi hlate hfr hkeep
      exact .inl ⟨wanted_none rfl, showsO_move hsn rfl _ rfl e0⟩
    | 6, hi =>
      cases (show some _ = some o from hi)
      have e21 : (f.tmps.getD 21 undef) = .pointer (some ⟨r, 0, none⟩) := depO (V := (VI3 r q E)) hdep 5 21 (by kernel_rfl) (by kernel_rfl)
      clear hdep hsame hi hlate hfr hkeep
      exact .inl ⟨wanted_none rfl, showsO_pure hsn rfl (.pointer (some ⟨r, 0, none⟩)) (by simp only [execOp, Act.eval]; go_simp) rfl⟩
    | 7, hi =>
      cases (show some _ = some o from hi)
      have e22 : (f.tmps.getD 22 undef) = .pointer (some ⟨r, 0, none⟩) := depO (V := (VI3 r q E)) hdep 6 22 (by kernel_rfl) (by kernel_rfl)
      clear hdep hsame hi hlate hfr hkeep
      exact .inl ⟨wanted_none rfl, showsO_pure hsn rfl (.pointer (some ⟨r, 1, none⟩)) (by simp only [execOp, Act.eval]; go_simp) rfl⟩
    | 8, hi =>
      cases (show some _ = some o from hi)
      have e23 : (f.tmps.getD 23 undef) = .pointer (some ⟨r, 1, none⟩) := depO (V := (VI3 r q E)) hdep 7 23 (by kernel_rfl) (by kernel_rfl)
      clear hdep hsame hi hlate hfr hkeep
      exact .inl ⟨wanted_none rfl, showsO_pure hsn rfl (.pointer (some ⟨r, 2, none⟩)) (by simp only [execOp, Act.eval]; go_simp) rfl⟩
    | 9, hi =>
      cases (show some _ = some o from hi)
      have e24 : (f.tmps.getD 24 undef) = .pointer (some ⟨r, 2, none⟩) := depO (V := (VI3 r q E)) hdep 8 24 (by kernel_rfl) (by kernel_rfl)
      clear hdep hsame hi hlate hfr hkeep
      have c25 := er_cellAt ((hb6.block _ (Array.getElem?_eq_some_iff.1 XR.out).1).trans XR.out) (2) _ rfl
      exact .inl ⟨wanted_none rfl, showsO_pure hsn rfl (.int .u64 (E : Int)) (by simp only [execOp, Act.eval]; go_simp) rfl⟩
    | 10, hi =>
      cases (show some _ = some o from hi)
      have e20 : (f.tmps.getD 20 undef) = .int .u64 (E : Int) := depO (V := (VI3 r q E)) hdep 4 20 (by kernel_rfl) (by kernel_rfl)
      have e25 : (f.tmps.getD 25 undef) = .int .u64 (E : Int) := depO (V := (VI3 r q E)) hdep 9 25 (by kernel_rfl) (by kernel_rfl)
      clear hdep hsame hi hlate hfr hkeep
      exact .inl ⟨wanted_none rfl, showsO_pure hsn rfl (.bool false) (by simp only [execOp, Act.eval]; go_simp) rfl⟩
    | n + 11, hi => exact absurd hi (by simp)
  intro fr u own hsame hsn hall
  have q16 : fr.tmps.getD 16 undef = .pointer (some ⟨q, 0, none⟩) := finO (V := (VI3 r q E)) hall 0 16 rfl
  have q17 : fr.tmps.getD 17 undef = .pointer (some ⟨q, 0, none⟩) := finO (V := (VI3 r q E)) hall 1 17 rfl
  have q18 : fr.tmps.getD 18 undef = .pointer (some ⟨q, 1, none⟩) := finO (V := (VI3 r q E)) hall 2 18 rfl
  have q19 : fr.tmps.getD 19 undef = .pointer (some ⟨q, 1, none⟩) := finO (V := (VI3 r q E)) hall 3 19 rfl
  have q20 : fr.tmps.getD 20 undef = .int .u64 (E : Int) := finO (V := (VI3 r q E)) hall 4 20 rfl
  have q21 : fr.tmps.getD 21 undef = .pointer (some ⟨r, 0, none⟩) := finO (V := (VI3 r q E)) hall 5 21 rfl
  have q22 : fr.tmps.getD 22 undef = .pointer (some ⟨r, 0, none⟩) := finO (V := (VI3 r q E)) hall 6 22 rfl
  have q23 : fr.tmps.getD 23 undef = .pointer (some ⟨r, 1, none⟩) := finO (V := (VI3 r q E)) hall 7 23 rfl
  have q24 : fr.tmps.getD 24 undef = .pointer (some ⟨r, 2, none⟩) := finO (V := (VI3 r q E)) hall 8 24 rfl
  have q25 : fr.tmps.getD 25 undef = .int .u64 (E : Int) := finO (V := (VI3 r q E)) hall 9 25 rfl
  have q26 : fr.tmps.getD 26 undef = .bool false := finO (V := (VI3 r q E)) hall 10 26 rfl
  obtain rfl := frame_eq hsame [(16, .pointer (some ⟨q, 0, none⟩)), (17, .pointer (some ⟨q, 0, none⟩)), (18, .pointer (some ⟨q, 1, none⟩)), (19, .pointer (some ⟨q, 1, none⟩)), (20, .int .u64 (E : Int)), (21, .pointer (some ⟨r, 0, none⟩)), (22, .pointer (some ⟨r, 0, none⟩)), (23, .pointer (some ⟨r, 1, none⟩)), (24, .pointer (some ⟨r, 2, none⟩)), (25, .int .u64 (E : Int)), (26, .bool false)] (by kernel_rfl) ⟨q16, q17, q18, q19, q20, q21, q22, q23, q24, q25, q26, trivial⟩
  clear hall hsame q16 q17 q18 q19 q20 q21 q22 q23 q24 q25 q26
  simp only [List.foldl, List.setIfInBounds_toArray, List.set_cons_succ, List.set_cons_zero]
  have hb := hsn.below (B := W.heap.size) (fun _ _ => rfl) (Nat.le_refl _)
  have K3 := Bx.mk (K2.out.trans (hb.mono K2.out.size)); have R3 := Bx.mk (R2.out.below hb); have Q3 := Bx.mk (Q2.out.below hb)
  clear hb hsn K2 R2 Q2 XR XQ
  obtain ⟨m, hm⟩ : ∃ m, m = ns.length := ⟨_, rfl⟩
  have HM := Bx.mk hm
  have c3 := er_cellAt Q3.out.hb 3 _ rfl
  rw [← hm] at c3
  clear hm
  go_wp2_with fail
  clear c3
  go_loopw [33] (fun iv wr => ∃ t : Nat, t ≤ m ∧ iv = .int .i64 (t : Int) ∧ ∃ s', RaP base wr r B E ((ns.take t).foldl pushN l) s' ∧ Keep (RaS r s) u wr ∧ ∀ k, s'.ownBlock = some k → s.ownBlock = some k ∨ u.heap.size ≤ k) (fun iv _ => m - (intOf iv).toNat)
  case atStart => exact ⟨0, Nat.zero_le _, rfl, s, R3.out, Keep.refl _ _, fun k hk => .inl hk⟩
  case round =>
    obtain ⟨t, ht, rfl, s1, hR, hk, hs⟩ := hrel
    have RW := Bx.mk hR; have KW := Bx.mk hk; have SW := Bx.mk hs
    have QW := Bx.mk (Q3.out.kept hk (fun j hj h => HAP.out j h hj))
    have BW := Bx.mk (K3.out.mono HB.out |>.trans (hk.below (B := base) (Nat.le_trans HB.out K3.out.size) (fun k h => GE.out k h)))
    clear hR hk hs R3
    by_cases hlt : t < m
    · have TP := Bx.mk (show t < ns.length by rw [← HM.out]; exact hlt)
      have TL := Bx.mk hlt
      have hown := QW.out.own
      rw [← HM.out] at hown
      obtain ⟨-, -, -, Bq, oq, e, hbq, hrq, -⟩ := (nss_own hown N32.out HM.out).at t TP.out
      obtain ⟨x, hx⟩ : ∃ x, x = ns[t]'(TP.out) := ⟨_, rfl⟩
      have hrq : wr.rangeAt Bq (oq + t * 34) (ncell x).toList := by rw [hx]; exact hrq
      have XL := Bx.mk (show x.2.2.length = 32 by rw [hx]; exact N32.out _ (List.getElem_mem _))
      have RX := Bx.mk hrq; have BQ := Bx.mk hbq
      have HF : Bx ((ns.take (t + 1)).foldl pushN l = pushN ((ns.take t).foldl pushN l) x) := ⟨by rw [foldl_push_take TP.out, hx]⟩
      have LF : Bx (((ns.take t).foldl pushN l).length ≤ 1000) := ⟨by have h1 := foldl_push_len (ns.take t) l; have h2 := LM.out; have h3 := TP.out; rw [List.length_take] at h1; omega⟩
      subst e
      have f1 : (t : Int) < (m : Int) := by omega
      clear hx hrq hbq hown hlt ht
      go_upto_region 7 with (fail)
      refine wp_region_seq8 (n := 50) VI7mk (fun _ => none) (VI7 t m tc Bq oq x) (by kernel_rfl) rfl (fun _ _ => rfl) (fun _ _ _ _ h => by cases h) ?_ ?_ ?_
      · exact fun oi oj v own w own' w' hij h r => VI7_mono t m tc Bq oq x oi oj v own w own' w' (by omega)  h r
      · intro oi o hi f u own hsame hsn hfr hlate hkeep8 hdep
        have hkeep := hkeep8 _ (Nat.le_refl _)
        have hb6 := hsn.below (B := wr.heap.size) (fun _ _ => rfl) (Nat.le_refl _)
        match oi, hi with
        | 0, hi =>
          cases (show some _ = some o from hi)
          have e31 : f.tmps.getD 31 undef = .slice (some ⟨Bq, oq, none⟩) m tc := hlate 31 (earlyS (by kernel_rfl))
          have e33 : f.tmps.getD 33 undef = .int .i64 (t : Int) := hlate 33 (earlyS (by kernel_rfl))
          clear hdep hsame hi hlate hfr hkeep
          have f2 : ¬ (m : Int) ≤ (t : Int) := by have := TL.out; omega
          have f3 : (t : Int) < (m : Int) := by have := TL.out; omega
          exact .inl ⟨wanted_none rfl, showsO_pure hsn rfl (.pointer (some ⟨Bq, oq + t * 34, none⟩)) (by simp only [execOp, Act.eval]; go_simp) rfl⟩
        | 1, hi =>
          cases (show some _ = some o from hi)
          have e35 : (f.tmps.getD 35 undef) = .pointer (some ⟨Bq, oq + t * 34, none⟩) := depS (V := (VI7 t m tc Bq oq x)) hdep 0 35 (by decide) (by kernel_rfl)
          clear hdep hsame hi hlate hfr hkeep
          exact .inl ⟨wanted_none rfl, showsO_mid hsn rfl 105 (.tmp 35) rfl Bq (oq + t * 34) e35 (ncell x).toList (rangeAt_below RX.out BQ.out hb6) underNd rfl (nszB XL.out) rfl⟩
        | 2, hi =>
          cases (show some _ = some o from hi)
          clear hdep hsame hi hlate hkeep
          exact .inl ⟨wanted_none rfl, showsO_alloc hsn hfr rfl zerosN 105 3 rfl (by simp only [execOp, Act.eval]; go_simp <;> rfl) (fun h => h)⟩
        | 3, hi =>
          cases (show some _ = some o from hi)
          have e6 : AllocV own u (f.tmps.getD 6 undef) 3 105 34 := depS (V := (VI7 t m tc Bq oq x)) hdep 2 6 (by decide) (by kernel_rfl)
          have e36 : (f.tmps.getD 36 undef) = .agg (ncell x) := depS (V := (VI7 t m tc Bq oq x)) hdep 1 36 (by decide) (by kernel_rfl)
          clear hdep hsame hi hlate hfr hkeep
          exact .inl ⟨wanted_none rfl, showsO_store_alloc hsn rfl 105 (.tmp 6) (.tmp 36) rfl e6 (ncell x) e36 (nszA XL.out) (by rw [ncell_size XL.out]) (ncell_one _) (fun _ h => h)⟩
        | n + 4, hi => exact absurd hi (by simp)
      intro fr u2 own hsame hsn hall
      have q35 : fr.tmps.getD 35 undef = .pointer (some ⟨Bq, oq + t * 34, none⟩) := finO (V := (VI7 t m tc Bq oq x)) hall 0 35 rfl
      have q36 : fr.tmps.getD 36 undef = .agg (ncell x) := finO (V := (VI7 t m tc Bq oq x)) hall 1 36 rfl
      obtain ⟨g6, q6, o6, m6⟩ := AllocV.stored (finO (V := (VI7 t m tc Bq oq x)) hall 2 6 rfl) (finN (V := (VI7 t m tc Bq oq x)) hall 3 rfl)
      obtain rfl := frame_eq hsame [(35, .pointer (some ⟨Bq, oq + t * 34, none⟩)), (36, .agg (ncell x)), (6, .pointer (some ⟨g6, 0, none⟩))] (by kernel_rfl) ⟨q35, q36, q6, trivial⟩
      clear hall hsame q35 q36 q6
      simp only [List.foldl, List.setIfInBounds_toArray, List.set_cons_succ, List.set_cons_zero]
      have hb := hsn.below (B := wr.heap.size) (fun _ _ => rfl) (Nat.le_refl _)
      have RU := Bx.mk (RW.out.below hb); have KU := Bx.mk (KW.out.trans (Keep.of_below hb (RaS r s)) (fun _ _ h => h)); have BU := Bx.mk (BW.out.trans (hb.mono (Nat.le_trans (Nat.le_trans HB.out K3.out.size) KW.out.size)))
      have M6 := Bx.mk m6
      have SU : Bx (w.heap.size ≤ u2.heap.size) := ⟨Nat.le_trans (Nat.le_trans K3.out.size KW.out.size) hb.size⟩
      have UU : Bx (u.heap.size ≤ u2.heap.size) := ⟨Nat.le_trans KW.out.size hb.size⟩
      clear hb hsn m6 o6 f1 RW KW BW QW
      have CP := Bx.mk (push_any base u2 r B E _ s1 RU.out x XL.out (fun y hy => HT.out y (BU.out.trans hy)) (Nat.le_trans HB.out SU.out) LF.out)
      go_wp2_with (guard_target =~ wpList _ _ _ (⟨some 38, _, _, _, _, _⟩ :: _) _ _; refine wpList_load_row rfl 105 (.tmp 6) rfl g6 rfl _ _ _ _ M6.out underNd rfl (nszA XL.out) ?_)
      refine CP.out.mono ?_
      rintro e u3 ⟨rfl, s2, hR2, hk2, hs2⟩
      have R4 := Bx.mk hR2; have S4 := Bx.mk hs2
      have K4 := Bx.mk (KU.out.trans hk2 (fun k hk h => by
        rcases h with h | h
        · exact .inl h
        · rcases SW.out k h with h1 | h1
          · exact .inr h1
          · exact absurd hk (by omega)))
      clear hR2 hk2 hs2 CP
      have tl := TL.out
      have lm : m ≤ 1000 := by have := LM.out; have := HM.out; omega
      go_wp2_with fail
      go_roundw
      case rel => exact ⟨t + 1, TL.out, by go_num, s2, by rw [HF.out]; exact R4.out, K4.out, fun k hk => by
        rcases S4.out k hk with h1 | h1
        · exact SW.out k h1
        · exact .inr (Nat.le_trans UU.out h1)⟩
      case measure => have := TL.out; simp [intOf]; omega
    · obtain rfl : t = m := by omega
      have f1 : ¬ (t : Int) < (t : Int) := by omega
      have hrw := RW.out
      rw [HM.out, List.take_length] at hrw
      have R4 := Bx.mk hrw
      have c2 := er_cellAt QW.out.hb 2 _ rfl
      have c2r := er_cellAt hrw.hb 2 _ rfl
      have f2 := er_frozen hrw.hb 2
      clear hrw ht hlt
      go_wp2_with fail
      go_ret
      refine ⟨rfl, s1, ?_, ?_, fun k hk => (SW.out k hk).imp id (fun h => Nat.le_trans K3.out.size h)⟩
      · have := rset_end R4.out E2
        simpa using this
      · exact ((Keep.of_below K3.out (RaS r s)).trans KW.out (fun _ _ h => h)).trans ((Keep.setCell wr ⟨r, 2, none⟩ _).mono (S' := RaS r s) (fun j _ h => .inl h)) (fun _ _ h => h)
def VI3b (r q E B2 : Nat) (oi : Nat) (v : Value) (_own : Nat → Option Nat) (_w : World) : Prop :=
  match oi with
  | 0 => v = .pointer (some ⟨q, 0, none⟩)
  | 1 => v = .pointer (some ⟨q, 0, none⟩)
  | 2 => v = .pointer (some ⟨q, 1, none⟩)
  | 3 => v = .pointer (some ⟨q, 1, none⟩)
  | 4 => v = .int .u64 (B2 : Int)
  | 5 => v = .pointer (some ⟨r, 0, none⟩)
  | 6 => v = .pointer (some ⟨r, 0, none⟩)
  | 7 => v = .pointer (some ⟨r, 1, none⟩)
  | 8 => v = .pointer (some ⟨r, 2, none⟩)
  | 9 => v = .int .u64 (E : Int)
  | 10 => v = .bool true
  | _ => True
def VI3bmk : Nat → Option Nat := fun _ => none
theorem VI3b_mono (r q E B2 : Nat) (oi oj : Nat) (v : Value) (own : Nat → Option Nat) (w : World) (own' : Nat → Option Nat) (w' : World) (hij : oi ≠ oj)   (h : VI3b r q E B2 oj v own w) (_r1 : Rel VI3bmk oi own w own' w') : VI3b r q E B2 oj v own' w' := by
  unfold VI3b at h ⊢
  split at h
  · exact h
  · exact h
  · exact h
  · exact h
  · exact h
  · exact h
  · exact h
  · exact h
  · exact h
  · exact h
  · exact h
  · trivial

set_option maxHeartbeats 800000 in
theorem rjoin_arg (A : Nat → Addr) (base : Nat) (w : World) (r B E : Nat) (l : List (Nat × Nat × List UInt8)) (s : Value) (hR : RaP base w r B E l s) (base2 q B2 E2 : Nat) (ns : List (Nat × Nat × List UInt8)) (t : Value) (hQ : RaP base2 w q B2 E2 ns t) (hE : Errs w A) (hne : ¬ B2 = E) :
    Calls Tryz.prog 20 #[.pointer (some ⟨r, 0, none⟩), .pointer (some ⟨q, 0, none⟩)] w fun e w' => e = .returned (.iface 282 (.pointer (some (A 1)))) ∧ Below w.heap.size w w' := by
  have NE := Bx.mk hne; have E0 := Bx.mk hE
  clear hne hE
  go_enter Tryz.func20, Tryz.ntmps20
  have R0 := Bx.mk hR; have Q0 := Bx.mk hQ
  clear hR hQ
  go_wp2_with fail
  refine (there_any R0.out).mono ?_
  rintro e W1 ⟨rfl, hb⟩
  have K1 := Bx.mk hb; have R1 := Bx.mk (R0.out.below hb); have Q1 := Bx.mk (Q0.out.below hb)
  clear hb R0 Q0
  go_wp2_with fail
  refine (there_any Q1.out).mono ?_
  rintro e W ⟨rfl, hb⟩
  have K2 := Bx.mk (K1.out.trans (hb.mono K1.out.size)); have R2 := Bx.mk (R1.out.below hb); have Q2 := Bx.mk (Q1.out.below hb)
  clear hb R1 Q1 K1
  have XR := Bx.mk R2.out.hb; have XQ := Bx.mk Q2.out.hb
  go_upto_region 3 with (fail)
  refine wp_region_own8 (n := 50) VI3bmk (fun _ => none) (VI3b r q E B2) (by kernel_rfl) (by kernel_rfl) rfl (fun _ _ => rfl) (fun j i hj _ => by cases hj) ?_ ?_ ?_
  · exact fun oi oj v own w own' w' hij _ h r1 => VI3b_mono r q E B2 oi oj v own w own' w' hij h r1
  · intro oi o hi f u own hsame hsn hfr hlate hkeep8 hdep
    have hkeep := hkeep8 _ (.inl rfl)
    have hb6 := hsn.below (B := W.heap.size) (fun _ _ => rfl) (Nat.le_refl _)
    match oi, hi with
    | 0, hi =>
      cases (show some _ = some o from hi)
      have e1 : f.tmps.getD 1 undef = .pointer (some ⟨q, 0, none⟩) := hsame.slot 1 (fun i o h => invB2_not 1 (by kernel_rfl) h)
      clear hdep hsame hi hlate hfr hkeep
      exact .inl ⟨wanted_none rfl, showsO_move hsn rfl _ rfl e1⟩
    | 1, hi =>
      cases (show some _ = some o from hi)
      have e16 : (f.tmps.getD 16 undef) = .pointer (some ⟨q, 0, none⟩) := depO (V := (VI3b r q E B2)) hdep 0 16 (by kernel_rfl) (by kernel_rfl)
      clear hdep hsame hi hlate hfr hkeep
      exact .inl ⟨wanted_none rfl, showsO_pure hsn rfl (.pointer (some ⟨q, 0, none⟩)) (by simp only [execOp, Act.eval]; go_simp) rfl⟩
    | 2, hi =>
      cases (show some _ = some o from hi)
      have e17 : (f.tmps.getD 17 undef) = .pointer (some ⟨q, 0, none⟩) := depO (V := (VI3b r q E B2)) hdep 1 17 (by kernel_rfl) (by kernel_rfl)
      clear hdep hsame hi hlate hfr hkeep
      exact .inl ⟨wanted_none rfl, showsO_pure hsn rfl (.pointer (some ⟨q, 1, none⟩)) (by simp only [execOp, Act.eval]; go_simp) rfl⟩
    | 3, hi =>
      cases (show some _ = some o from hi)
      have e18 : (f.tmps.getD 18 undef) = .pointer (some ⟨q, 1, none⟩) := depO (V := (VI3b r q E B2)) hdep 2 18 (by kernel_rfl) (by kernel_rfl)
      clear hdep hsame hi hlate hfr hkeep
      exact .inl ⟨wanted_none rfl, showsO_pure hsn rfl (.pointer (some ⟨q, 1, none⟩)) (by simp only [execOp, Act.eval]; go_simp) rfl⟩
    | 4, hi =>
      cases (show some _ = some o from hi)
      have e19 : (f.tmps.getD 19 undef) = .pointer (some ⟨q, 1, none⟩) := depO (V := (VI3b r q E B2)) hdep 3 19 (by kernel_rfl) (by kernel_rfl)
      clear hdep hsame hi hlate hfr hkeep
      have c20 := er_cellAt ((hb6.block _ (Array.getElem?_eq_some_iff.1 XQ.out).1).trans XQ.out) (1) _ rfl
      exact .inl ⟨wanted_none rfl, showsO_pure hsn rfl (.int .u64 (B2 : Int)) (by simp only [execOp, Act.eval]; go_simp) rfl⟩
    | 5, hi =>
      cases (show some _ = some o from hi)
      have e0 : f.tmps.getD 0 undef = .pointer (some ⟨r, 0, none⟩) := hsame.slot 0 (fun i o h => invB2_not 0 (by kernel_rfl) h)
      clear hdep hsame hi hlate hfr hkeep
      exact .inl ⟨wanted_none rfl, showsO_move hsn rfl _ rfl e0⟩
    | 6, hi =>
      cases (show some _ = some o from hi)
      have e21 : (f.tmps.getD 21 undef) = .pointer (some ⟨r, 0, none⟩) := depO (V := (VI3b r q E B2)) hdep 5 21 (by kernel_rfl) (by kernel_rfl)
      clear hdep hsame hi hlate hfr hkeep
      exact .inl ⟨wanted_none rfl, showsO_pure hsn rfl (.pointer (some ⟨r, 0, none⟩)) (by simp only [execOp, Act.eval]; go_simp) rfl⟩
    | 7, hi =>
      cases (show some _ = some o from hi)
      have e22 : (f.tmps.getD 22 undef) = .pointer (some ⟨r, 0, none⟩) := depO (V := (VI3b r q E B2)) hdep 6 22 (by kernel_rfl) (by kernel_rfl)
      clear hdep hsame hi hlate hfr hkeep
      exact .inl ⟨wanted_none rfl, showsO_pure hsn rfl (.pointer (some ⟨r, 1, none⟩)) (by simp only [execOp, Act.eval]; go_simp) rfl⟩
    | 8, hi =>
      cases (show some _ = some o from hi)
      have e23 : (f.tmps.getD 23 undef) = .pointer (some ⟨r, 1, none⟩) := depO (V := (VI3b r q E B2)) hdep 7 23 (by kernel_rfl) (by kernel_rfl)
      clear hdep hsame hi hlate hfr hkeep
      exact .inl ⟨wanted_none rfl, showsO_pure hsn rfl (.pointer (some ⟨r, 2, none⟩)) (by simp only [execOp, Act.eval]; go_simp) rfl⟩
    | 9, hi =>
      cases (show some _ = some o from hi)
      have e24 : (f.tmps.getD 24 undef) = .pointer (some ⟨r, 2, none⟩) := depO (V := (VI3b r q E B2)) hdep 8 24 (by kernel_rfl) (by kernel_rfl)
      clear hdep hsame hi hlate hfr hkeep
      have c25 := er_cellAt ((hb6.block _ (Array.getElem?_eq_some_iff.1 XR.out).1).trans XR.out) (2) _ rfl
      exact .inl ⟨wanted_none rfl, showsO_pure hsn rfl (.int .u64 (E : Int)) (by simp only [execOp, Act.eval]; go_simp) rfl⟩
    | 10, hi =>
      cases (show some _ = some o from hi)
      have e20 : (f.tmps.getD 20 undef) = .int .u64 (B2 : Int) := depO (V := (VI3b r q E B2)) hdep 4 20 (by kernel_rfl) (by kernel_rfl)
      have e25 : (f.tmps.getD 25 undef) = .int .u64 (E : Int) := depO (V := (VI3b r q E B2)) hdep 9 25 (by kernel_rfl) (by kernel_rfl)
      clear hdep hsame hi hlate hfr hkeep
      exact .inl ⟨wanted_none rfl, showsO_pure hsn rfl (.bool true) (by simp only [execOp, Act.eval]; go_simp; have := NE.out; first | omega | (simp; omega)) rfl⟩
    | n + 11, hi => exact absurd hi (by simp)
  intro fr u own hsame hsn hall
  have q16 : fr.tmps.getD 16 undef = .pointer (some ⟨q, 0, none⟩) := finO (V := (VI3b r q E B2)) hall 0 16 rfl
  have q17 : fr.tmps.getD 17 undef = .pointer (some ⟨q, 0, none⟩) := finO (V := (VI3b r q E B2)) hall 1 17 rfl
  have q18 : fr.tmps.getD 18 undef = .pointer (some ⟨q, 1, none⟩) := finO (V := (VI3b r q E B2)) hall 2 18 rfl
  have q19 : fr.tmps.getD 19 undef = .pointer (some ⟨q, 1, none⟩) := finO (V := (VI3b r q E B2)) hall 3 19 rfl
  have q20 : fr.tmps.getD 20 undef = .int .u64 (B2 : Int) := finO (V := (VI3b r q E B2)) hall 4 20 rfl
  have q21 : fr.tmps.getD 21 undef = .pointer (some ⟨r, 0, none⟩) := finO (V := (VI3b r q E B2)) hall 5 21 rfl
  have q22 : fr.tmps.getD 22 undef = .pointer (some ⟨r, 0, none⟩) := finO (V := (VI3b r q E B2)) hall 6 22 rfl
  have q23 : fr.tmps.getD 23 undef = .pointer (some ⟨r, 1, none⟩) := finO (V := (VI3b r q E B2)) hall 7 23 rfl
  have q24 : fr.tmps.getD 24 undef = .pointer (some ⟨r, 2, none⟩) := finO (V := (VI3b r q E B2)) hall 8 24 rfl
  have q25 : fr.tmps.getD 25 undef = .int .u64 (E : Int) := finO (V := (VI3b r q E B2)) hall 9 25 rfl
  have q26 : fr.tmps.getD 26 undef = .bool true := finO (V := (VI3b r q E B2)) hall 10 26 rfl
  obtain rfl := frame_eq hsame [(16, .pointer (some ⟨q, 0, none⟩)), (17, .pointer (some ⟨q, 0, none⟩)), (18, .pointer (some ⟨q, 1, none⟩)), (19, .pointer (some ⟨q, 1, none⟩)), (20, .int .u64 (B2 : Int)), (21, .pointer (some ⟨r, 0, none⟩)), (22, .pointer (some ⟨r, 0, none⟩)), (23, .pointer (some ⟨r, 1, none⟩)), (24, .pointer (some ⟨r, 2, none⟩)), (25, .int .u64 (E : Int)), (26, .bool true)] (by kernel_rfl) ⟨q16, q17, q18, q19, q20, q21, q22, q23, q24, q25, q26, trivial⟩
  clear hall hsame q16 q17 q18 q19 q20 q21 q22 q23 q24 q25 q26
  simp only [List.foldl, List.setIfInBounds_toArray, List.set_cons_succ, List.set_cons_zero]
  have hb := hsn.below (B := W.heap.size) (fun _ _ => rfl) (Nat.le_refl _)
  have K3 := Bx.mk (K2.out.trans (hb.mono K2.out.size))
  have gE : u.cell? ⟨0, 0, none⟩ = some (.iface 282 (.pointer (some (A 1)))) := (E0.out.below K3.out).glob 1 (by decide)
  clear hb hsn K2 R2 Q2 XR XQ
  go_wp2_with fail
  go_ret
  exact ⟨rfl, K3.out⟩
end Go.Proofs.YtgbafjmklefoiaaGreatDoor
