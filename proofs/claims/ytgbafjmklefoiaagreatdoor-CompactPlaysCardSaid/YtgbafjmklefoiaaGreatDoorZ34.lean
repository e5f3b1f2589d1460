/- cartularylaw09: what the two ranges' calls leave is the same (plain laws). -/
import Derived.Test.YtgbafjmklefoiaaGreatDoorZ32
import Derived.Test.YtgbafjmklefoiaaGreatDoorZ33
namespace Go.Proofs.YtgbafjmklefoiaaGreatDoor
set_option maxRecDepth 100000
open Go.RowKit
theorem app_law9 {B E : Nat} {l : List (Nat × Nat × List UInt8)} (h : StC B E l) (p : List UInt8) : setlF (l.length + 1) (l ++ [(0, E, p)]) = pushN l (0, E, p) :=
  settle_all (ns := [(0, E, p)]) (Nat.le_refl _) h.nj trivial
theorem join_law9 {B E E2 : Nat} {l l2 : List (Nat × Nat × List UInt8)} (h : StC B E l) (h2 : StC E E2 l2) : setlF (l.length + l2.length) (l ++ l2) = l2.foldl pushN l :=
  settle_all (Nat.le_refl _) h.nj h2.nj
theorem zip_st9 {B E : Nat} {hs : List (List UInt8)} (h : B ≤ E) (hE : E ≤ 2 ^ 63) (hl : (coverN B E).length = hs.length) : StC B E (zipC (coverN B E) hs) :=
  ⟨h, .inl hE, zipC_co hl⟩
theorem nil_st9 {B : Nat} {l : List (Nat × Nat × List UInt8)} (h : StC B B l) : l = [] := by
  have h3 := h.2.2
  rw [coverN_nil (Nat.lt_irrefl _)] at h3
  exact List.map_eq_nil_iff.1 h3
/-- Append of the pair: the program's, the document's -/
def AppG (base : Nat) (w : World) (r B E2 : Nat) (l2 : List (Nat × Nat × List UInt8)) (s : Value) (ev : Value) (e : Ending) (w' : World) : Prop :=
  e = .returned ev ∧ ∃ s', RaP base w' r B E2 l2 s' ∧ Keep (RaS r s) w w' ∧ ∀ k, s'.ownBlock = some k → s.ownBlock = some k ∨ w.heap.size ≤ k
def RAppG (base : Nat) (w : World) (d B E2 : Nat) (l2 : List (Nat × Nat × List UInt8)) (s : Value) (fc fa : Int) (e : Ending) (w' : World) : Prop :=
  e = .returned (.agg #[.int .i64 fc, .int .i64 fa]) ∧ ∃ s', RmP base w' d B E2 l2 s' ∧ Keep (RmS d s) w w' ∧ ∀ k, s'.ownBlock = some k → s.ownBlock = some k ∨ w.heap.size ≤ k
theorem app_both9 (A : Nat → Addr) (base : Nat) (r d B E : Nat) (l : List (Nat × Nat × List UInt8)) (s t : Value) (hS : StC B E l) (p : List UInt8) (hp : p.length = 32) :
    ∃ (E2 : Nat) (l2 : List (Nat × Nat × List UInt8)) (ev : Value) (fc fa : Int), StC B E2 l2 ∧ (E < 2 ^ 64 → E2 < 2 ^ 64) ∧ ((ev = .nilIface ∧ fc = 0 ∧ fa = 0) ∨ (ev = .iface 282 (.pointer (some (A 3))) ∧ fc = 4 ∧ fa = -1)) ∧
      (∀ u, RaP base u r B E l s → base ≤ u.heap.size → Errs u A → (∀ u', Below base u u' → TabS u') → Calls Tryz.prog 17 #[.pointer (some ⟨r, 0, none⟩), hv p] u (AppG base u r B E2 l2 s ev)) ∧
      (∀ u, RmP base u d B E l t → base ≤ u.heap.size → Calls Tryz.prog 19 #[.pointer (some ⟨d, 0, none⟩), .agg (ocells p)] u (RAppG base u d B E2 l2 t fc fa)) := by
  have LE := hS.le
  by_cases hE : E < 9223372036854775808
  · refine ⟨E + 1, pushN l (0, E, p), .nilIface, 0, 0, hS.push hE p, fun _ => by omega, .inl ⟨rfl, rfl, rfl⟩, fun u hu hb _ hT => ?_, fun u hu hb => ?_⟩
    · refine (rapp_any base u r B E l s hu p hp hT hb (by omega) hE).mono ?_
      rintro e w' ⟨he, hr⟩
      exact ⟨he, hr⟩
    · refine (rmapp_any base u d B E l t hu hE (by omega) (fun x hx => hS.idx x hx) hb p hp).mono ?_
      rintro e w' ⟨he, hr⟩
      rw [app_law9 hS] at hr
      exact ⟨he, hr⟩
  · refine ⟨E, l, _, 4, -1, hS, fun h => h, .inr ⟨rfl, rfl, rfl⟩, fun u hu hb hE2 hT => ?_, fun u hu hb => ?_⟩
    · refine (rapp_limit A base u r B E l s hu p hE2 (by omega)).mono ?_
      rintro e w' ⟨he, hb2⟩
      exact ⟨he, s, hu.below hb2, Keep.of_below hb2 _, fun k hk => .inl hk⟩
    · refine (rmapp_limit base u d B E l t hu (by omega) p hp).mono ?_
      rintro e w' ⟨he, hb2⟩
      exact ⟨he, t, hu.below hb2, Keep.of_below hb2 _, fun k hk => .inl hk⟩
theorem below_setSameQ {w : World} {g i : Nat} {cs : Array Value} {T : TypeId} {v : Value} (h : w.heap[g]? = some (.cells cs T (0, 0))) (hv : cs[i]? = some v) : Below w.heap.size w (w.setCell ⟨g, i, none⟩ v) := by
  have h1 : (w.setCell ⟨g, i, none⟩ v).heap = w.heap := by
    apply Array.ext_getElem?
    intro k
    have e : cs.setIfInBounds i v = cs := by
      apply Array.ext_getElem?
      intro j
      by_cases hj : i = j
      · subst hj
        obtain ⟨h1, h2⟩ := Array.getElem?_eq_some_iff.1 hv
        simp [h1, ← h2]
      · rw [Array.getElem?_setIfInBounds_ne hj]
    by_cases hk : g = k
    · subst hk
      simp [World.setCell, Array.getElem?_modify, h, e]
    · simp [World.setCell, Array.getElem?_modify, hk]
  exact ⟨rfl, rfl, rfl, by rw [h1]; exact Nat.le_refl _, fun k hk => by rw [h1]⟩
set_option maxHeartbeats 1600000 in
theorem rjoin_nilQ (base : Nat) (w : World) (r B E : Nat) (l : List (Nat × Nat × List UInt8)) (s : Value) (hR : RaP base w r B E l s) (base2 q : Nat) (t : Value) (hQ : RaP base2 w q E E [] t) :
    Calls Tryz.prog 20 #[.pointer (some ⟨r, 0, none⟩), .pointer (some ⟨q, 0, none⟩)] w fun e w' => e = .returned .nilIface ∧ Below w.heap.size w w' := by
  obtain ⟨m, hm⟩ : ∃ m, m = ([] : List (Nat × Nat × List UInt8)).length := ⟨_, rfl⟩
  have HM := Bx.mk hm
  have hQo := hQ.own
  rw [← hm] at hQo
  obtain ⟨ta, tc, hs, htn, htm, hta⟩ := own_shape hQo
  subst hs
  clear htn htm hta hm hQo
  go_enter Tryz.func20, Tryz.ntmps20
  have R0 := Bx.mk hR; have Q0 := Bx.mk hQ
  clear hR hQ
  go_wp2_with fail
  refine (there_any R0.out).mono ?_
  rintro e W1 ⟨rfl, hb⟩
  have K1 := Bx.mk hb; have R1 := Bx.mk (R0.out.below hb); have Q1 := Bx.mk (Q0.out.below hb)
  clear hb R0 Q0
  go_wp2_with fail
  refine (there_any Q1.out).mono ?_
  rintro e W ⟨rfl, hb⟩
  have K2 := Bx.mk (K1.out.trans (hb.mono K1.out.size)); have R2 := Bx.mk (R1.out.below hb); have Q2 := Bx.mk (Q1.out.below hb)
  clear hb R1 Q1 K1
  have XR := Bx.mk R2.out.hb; have XQ := Bx.mk Q2.out.hb
  go_upto_region 3 with (fail)
  refine wp_region_own8 (n := 50) VI3mk (fun _ => none) (VI3 r q E) (by kernel_rfl) (by kernel_rfl) rfl (fun _ _ => rfl) (fun j i hj _ => by cases hj) ?_ ?_ ?_
  · exact fun oi oj v own w own' w' hij _ h r1 => VI3_mono r q E oi oj v own w own' w' hij h r1
  · intro oi o hi f u own hsame hsn hfr hlate hkeep8 hdep
    have hkeep := hkeep8 _ (.inl rfl)
    have hb6 := hsn.below (B := W.heap.size) (fun _ _ => rfl) (Nat.le_refl _)
    match oi, hi with
    | 0, hi =>
      cases (show some _ = some o from hi)
      have e1 : f.tmps.getD 1 undef = .pointer (some ⟨q, 0, none⟩) := hsame.slot 1 (fun i o h => invB2_not 1 (by kernel_rfl) h)
      clear hdep hsame hi hlate hfr hkeep
      exact .inl ⟨wanted_none rfl, showsO_move hsn rfl _ rfl e1⟩
    | 1, hi =>
      cases (show some _ = some o from hi)
      have e16 : (f.tmps.getD 16 undef) = .pointer (some ⟨q, 0, none⟩) := depO (V := (VI3 r q E)) hdep 0 16 (by kernel_rfl) (by kernel_rfl)
      clear hdep hsame hi hlate hfr hkeep
      exact .inl ⟨wanted_none rfl, showsO_pure hsn rfl (.pointer (some ⟨q, 0, none⟩)) (by simp only [execOp, Act.eval]; go_simp) rfl⟩
    | 2, hi =>
      cases (show some _ = some o from hi)
      have e17 : (f.tmps.getD 17 undef) = .pointer (some ⟨q, 0, none⟩) := depO (V := (VI3 r q E)) hdep 1 17 (by kernel_rfl) (by kernel_rfl)
      clear hdep hsame hi hlate hfr hkeep
      exact .inl ⟨wanted_none rfl, showsO_pure hsn rfl (.pointer (some ⟨q, 1, none⟩)) (by simp only [execOp, Act.eval]; go_simp) rfl⟩
    | 3, hi =>
      cases (show some _ = some o from hi)
      have e18 : (f.tmps.getD 18 undef) = .pointer (some ⟨q, 1, none⟩) := depO (V := (VI3 r q E)) hdep 2 18 (by kernel_rfl) (by kernel_rfl)
      clear hdep hsame hi hlate hfr hkeep
      exact .inl ⟨wanted_none rfl, showsO_pure hsn rfl (.pointer (some ⟨q, 1, none⟩)) (by simp only [execOp, Act.eval]; go_simp) rfl⟩
    | 4, hi =>
      cases (show some _ = some o from hi)
      have e19 : (f.tmps.getD 19 undef) = .pointer (some ⟨q, 1, none⟩) := depO (V := (VI3 r q E)) hdep 3 19 (by kernel_rfl) (by kernel_rfl)
      clear hdep hsame hi hlate hfr hkeep
      have c20 := er_cellAt ((hb6.block _ (Array.getElem?_eq_some_iff.1 XQ.out).1).trans XQ.out) (1) _ rfl
      exact .inl ⟨wanted_none rfl, showsO_pure hsn rfl (.int .u64 (E : Int)) (by simp only [execOp, Act.eval]; go_simp) rfl⟩
    | 5, hi =>
      cases (show some _ = some o from hi)
      have e0 : f.tmps.getD 0 undef = .pointer (some ⟨r, 0, none⟩) := hsame.slot 0 (fun i o h => invB2_not 0 (by kernel_rfl) h)
      clear hdep hsame hi hlate hfr hkeep
      exact .inl ⟨wanted_none rfl, showsO_move hsn rfl _ rfl e0⟩
    | 6, hi =>
      cases (show some _ = some o from hi)
      have e21 : (f.tmps.getD 21 undef) = .pointer (some ⟨r, 0, none⟩) := depO (V := (VI3 r q E)) hdep 5 21 (by kernel_rfl) (by kernel_rfl)
      clear hdep hsame hi hlate hfr hkeep
      exact .inl ⟨wanted_none rfl, showsO_pure hsn rfl (.pointer (some ⟨r, 0, none⟩)) (by simp only [execOp, Act.eval]; go_simp) rfl⟩
    | 7, hi =>
      cases (show some _ = some o from hi)
      have e22 : (f.tmps.getD 22 undef) = .pointer (some ⟨r, 0, none⟩) := depO (V := (VI3 r q E)) hdep 6 22 (by kernel_rfl) (by kernel_rfl)
      clear hdep hsame hi hlate hfr hkeep
      exact .inl ⟨wanted_none rfl, showsO_pure hsn rfl (.pointer (some ⟨r, 1, none⟩)) (by simp only [execOp, Act.eval]; go_simp) rfl⟩
    | 8, hi =>
      cases (show some _ = some o from hi)
      have e23 : (f.tmps.getD 23 undef) = .pointer (some ⟨r, 1, none⟩) := depO (V := (VI3 r q E)) hdep 7 23 (by kernel_rfl) (by kernel_rfl)
      clear hdep hsame hi hlate hfr hkeep
      exact .inl ⟨wanted_none rfl, showsO_pure hsn rfl (.pointer (some ⟨r, 2, none⟩)) (by simp only [execOp, Act.eval]; go_simp) rfl⟩
    | 9, hi =>
      cases (show some _ = some o from hi)
      have e24 : (f.tmps.getD 24 undef) = .pointer (some ⟨r, 2, none⟩) := depO (V := (VI3 r q E)) hdep 8 24 (by kernel_rfl) (by kernel_rfl)
      clear hdep hsame hi hlate hfr hkeep
      have c25 := er_cellAt ((hb6.block _ (Array.getElem?_eq_some_iff.1 XR.out).1).trans XR.out) (2) _ rfl
      exact .inl ⟨wanted_none rfl, showsO_pure hsn rfl (.int .u64 (E : Int)) (by simp only [execOp, Act.eval]; go_simp) rfl⟩
    | 10, hi =>
      cases (show some _ = some o from hi)
      have e20 : (f.tmps.getD 20 undef) = .int .u64 (E : Int) := depO (V := (VI3 r q E)) hdep 4 20 (by kernel_rfl) (by kernel_rfl)
      have e25 : (f.tmps.getD 25 undef) = .int .u64 (E : Int) := depO (V := (VI3 r q E)) hdep 9 25 (by kernel_rfl) (by kernel_rfl)
      clear hdep hsame hi hlate hfr hkeep
      exact .inl ⟨wanted_none rfl, showsO_pure hsn rfl (.bool false) (by simp only [execOp, Act.eval]; go_simp) rfl⟩
    | n + 11, hi => exact absurd hi (by simp)
  intro fr u own hsame hsn hall
  have q16 : fr.tmps.getD 16 undef = .pointer (some ⟨q, 0, none⟩) := finO (V := (VI3 r q E)) hall 0 16 rfl
  have q17 : fr.tmps.getD 17 undef = .pointer (some ⟨q, 0, none⟩) := finO (V := (VI3 r q E)) hall 1 17 rfl
  have q18 : fr.tmps.getD 18 undef = .pointer (some ⟨q, 1, none⟩) := finO (V := (VI3 r q E)) hall 2 18 rfl
  have q19 : fr.tmps.getD 19 undef = .pointer (some ⟨q, 1, none⟩) := finO (V := (VI3 r q E)) hall 3 19 rfl
  have q20 : fr.tmps.getD 20 undef = .int .u64 (E : Int) := finO (V := (VI3 r q E)) hall 4 20 rfl
  have q21 : fr.tmps.getD 21 undef = .pointer (some ⟨r, 0, none⟩) := finO (V := (VI3 r q E)) hall 5 21 rfl
  have q22 : fr.tmps.getD 22 undef = .pointer (some ⟨r, 0, none⟩) := finO (V := (VI3 r q E)) hall 6 22 rfl
  have q23 : fr.tmps.getD 23 undef = .pointer (some ⟨r, 1, none⟩) := finO (V := (VI3 r q E)) hall 7 23 rfl
  have q24 : fr.tmps.getD 24 undef = .pointer (some ⟨r, 2, none⟩) := finO (V := (VI3 r q E)) hall 8 24 rfl
  have q25 : fr.tmps.getD 25 undef = .int .u64 (E : Int) := finO (V := (VI3 r q E)) hall 9 25 rfl
  have q26 : fr.tmps.getD 26 undef = .bool false := finO (V := (VI3 r q E)) hall 10 26 rfl
  obtain rfl := frame_eq hsame [(16, .pointer (some ⟨q, 0, none⟩)), (17, .pointer (some ⟨q, 0, none⟩)), (18, .pointer (some ⟨q, 1, none⟩)), (19, .pointer (some ⟨q, 1, none⟩)), (20, .int .u64 (E : Int)), (21, .pointer (some ⟨r, 0, none⟩)), (22, .pointer (some ⟨r, 0, none⟩)), (23, .pointer (some ⟨r, 1, none⟩)), (24, .pointer (some ⟨r, 2, none⟩)), (25, .int .u64 (E : Int)), (26, .bool false)] (by kernel_rfl) ⟨q16, q17, q18, q19, q20, q21, q22, q23, q24, q25, q26, trivial⟩
  clear hall hsame q16 q17 q18 q19 q20 q21 q22 q23 q24 q25 q26
  simp only [List.foldl, List.setIfInBounds_toArray, List.set_cons_succ, List.set_cons_zero]
  have hb := hsn.below (B := W.heap.size) (fun _ _ => rfl) (Nat.le_refl _)
  have K3 := Bx.mk (K2.out.trans (hb.mono K2.out.size)); have R3 := Bx.mk (R2.out.below hb); have Q3 := Bx.mk (Q2.out.below hb)
  clear hb hsn K2 R2 Q2 XR XQ
  have c3 := er_cellAt Q3.out.hb 3 _ rfl
  go_wp2_with fail
  clear c3
  go_loopw [33] (fun iv wr => ∃ t : Nat, t ≤ m ∧ iv = .int .i64 (t : Int) ∧ wr = u) (fun iv _ => m - (intOf iv).toNat)
  case atStart => exact ⟨0, Nat.zero_le _, rfl, rfl⟩
  case round =>
    obtain ⟨t, ht, rfl, rfl⟩ := hrel
    obtain rfl : t = m := by have := HM.out; simp at this; omega
    have f1 : ¬ (t : Int) < (t : Int) := by omega
    have c2 := er_cellAt Q3.out.hb 2 _ rfl
    have c2r := er_cellAt R3.out.hb 2 _ rfl
    have f2 := er_frozen R3.out.hb 2
    clear ht
    go_wp2_with fail
    go_ret
    exact ⟨rfl, K3.out.trans ((below_setSameQ R3.out.hb rfl).mono K3.out.size)⟩
theorem join_sep9 (A : Nat → Addr) (base : Nat) (r d q o B E B2 E2 : Nat) (l l2 : List (Nat × Nat × List UInt8)) (s t sq so : Value) (hS : StC B E l) (hS2 : StC B2 E2 l2) (hE : E < 2 ^ 64) (hE2 : E2 < 2 ^ 64) :
    ∃ (E' : Nat) (l' : List (Nat × Nat × List UInt8)) (ev : Value) (fc fa : Int), StC B E' l' ∧ E' < 2 ^ 64 ∧ ((ev = .nilIface ∧ fc = 0 ∧ fa = 0) ∨ (ev = .iface 282 (.pointer (some (A 1))) ∧ fc = 2 ∧ fa = -1)) ∧
      (∀ u, RaP base u r B E l s → RaP base u q B2 E2 l2 sq → (∀ k, RaS r s k → ¬ RaS q sq k) → base ≤ u.heap.size → Errs u A → (∀ u', Below base u u' → TabS u') → Calls Tryz.prog 20 #[.pointer (some ⟨r, 0, none⟩), .pointer (some ⟨q, 0, none⟩)] u (AppG base u r B E' l' s ev)) ∧
      (∀ u, RmP base u d B E l t → RmP base u o B2 E2 l2 so → (∀ k, RmS o so k → ¬ RmS d t k) → base ≤ u.heap.size → Calls Tryz.prog 21 #[.pointer (some ⟨d, 0, none⟩), .pointer (some ⟨o, 0, none⟩)] u (RAppG base u d B E' l' t fc fa)) := by
  have LE := hS.le
  have LE2 := hS2.le
  by_cases he : B2 = E
  · subst he
    refine ⟨E2, l2.foldl pushN l, .nilIface, 0, 0, hS.join hS2, hE2, .inl ⟨rfl, rfl, rfl⟩, fun u hu hq hap hb _ hT => ?_, fun u hu hq hsep hb => ?_⟩
    · refine (rjoin_any base u r B B2 l s hu base q E2 l2 sq hq hap hT hb (by omega)).mono ?_
      rintro e w' ⟨he, hr⟩
      exact ⟨he, hr⟩
    · obtain ⟨a2, c2, ho⟩ := hu.other hq hsep
      refine (rmjoin_any base u d B B2 l t hu o E2 l2 a2 c2 ho (by omega) (fun x hx => (List.mem_append.1 hx).elim (hS.idx x) (hS2.idx x)) hb).mono ?_
      rintro e w' ⟨he, hr⟩
      rw [join_law9 hS hS2] at hr
      exact ⟨he, hr⟩
  · refine ⟨E, l, _, 2, -1, hS, hE, .inr ⟨rfl, rfl, rfl⟩, fun u hu hq _ hb hEr hT => ?_, fun u hu hq _ hb => ?_⟩
    · refine (rjoin_arg A base u r B E l s hu base q B2 E2 l2 sq hq hEr he).mono ?_
      rintro e w' ⟨he, hb2⟩
      exact ⟨he, s, hu.below hb2, Keep.of_below hb2 _, fun k hk => .inl hk⟩
    · refine (rmjoin_bad base u d B E l t hu o B2 E2 l2 so hq he).mono ?_
      rintro e w' ⟨he, hb2⟩
      exact ⟨he, t, hu.below hb2, Keep.of_below hb2 _, fun k hk => .inl hk⟩
theorem join_self9 (A : Nat → Addr) (base : Nat) (r d B E : Nat) (l : List (Nat × Nat × List UInt8)) (s t : Value) (hS : StC B E l) (hE : E < 2 ^ 64) :
    ∃ (E' : Nat) (l' : List (Nat × Nat × List UInt8)) (ev : Value) (fc fa : Int), StC B E' l' ∧ E' < 2 ^ 64 ∧ ((ev = .nilIface ∧ fc = 0 ∧ fa = 0) ∨ (ev = .iface 282 (.pointer (some (A 1))) ∧ fc = 2 ∧ fa = -1)) ∧
      (∀ u, RaP base u r B E l s → base ≤ u.heap.size → Errs u A → Calls Tryz.prog 20 #[.pointer (some ⟨r, 0, none⟩), .pointer (some ⟨r, 0, none⟩)] u (AppG base u r B E' l' s ev)) ∧
      (∀ u, RmP base u d B E l t → base ≤ u.heap.size → Calls Tryz.prog 21 #[.pointer (some ⟨d, 0, none⟩), .pointer (some ⟨d, 0, none⟩)] u (RAppG base u d B E' l' t fc fa)) := by
  by_cases he : B = E
  · subst he
    obtain rfl := nil_st9 hS
    refine ⟨B, [], .nilIface, 0, 0, hS, hE, .inl ⟨rfl, rfl, rfl⟩, fun u hu hb _ => ?_, fun u hu hb => ?_⟩
    · refine (rjoin_nilQ base u r B B [] s hu base r s hu).mono ?_
      rintro e w' ⟨he, hb2⟩
      exact ⟨he, s, hu.below hb2, Keep.of_below hb2 _, fun k hk => .inl hk⟩
    · obtain ⟨a2, c2, ho⟩ := hu.self
      refine (rmjoin_any base u d B B [] t hu d B [] a2 c2 ho (by decide) (fun x hx => by cases hx) hb).mono ?_
      rintro e w' ⟨he, hr⟩
      exact ⟨he, hr⟩
  · refine ⟨E, l, _, 2, -1, hS, hE, .inr ⟨rfl, rfl, rfl⟩, fun u hu hb hEr => ?_, fun u hu hb => ?_⟩
    · refine (rjoin_arg A base u r B E l s hu base r B E l s hu hEr he).mono ?_
      rintro e w' ⟨he, hb2⟩
      exact ⟨he, s, hu.below hb2, Keep.of_below hb2 _, fun k hk => .inl hk⟩
    · refine (rmjoin_bad base u d B E l t hu d B E l t hu he).mono ?_
      rintro e w' ⟨he, hb2⟩
      exact ⟨he, t, hu.below hb2, Keep.of_below hb2 _, fun k hk => .inl hk⟩
end Go.Proofs.YtgbafjmklefoiaaGreatDoor
