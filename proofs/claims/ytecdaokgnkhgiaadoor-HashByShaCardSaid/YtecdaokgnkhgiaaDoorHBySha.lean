/- cartularylaw05.HashBySha walked. -/
import Derived.Test.YtecdaokgnkhgiaaDoorHg
import Derived.Test.YtecdaokgnkhgiaaDoorHf
import Derived.Test.YtecdaokgnkhgiaaDoorInv
import Derived.Great.BuildSlice
namespace Go.Proofs.YtecdaokgnkhgiaaDoor
set_option maxRecDepth 100000
open Go.RowKit
/-- what each slot of the last region holds -/
def VS (s : ByteArray) (a b : List UInt8) (n : Nat) (v : Value) (w : World) : Prop :=
  match n with
  | 14 => v = .string s
  | 15 => v = .agg (ocells (sha (0 :: sb s)))
  | 16 => v = .string s
  | 17 => v = .string ((⟨#[0]⟩ : ByteArray) ++ s)
  | 18 => Strs w v [(⟨#[0]⟩ : ByteArray) ++ s]
  | 19 => v = .agg (ocells (sha (0 :: sb s)))
  | 20 => v = .bool true
  | 21 => v = .bool true
  | 22 => v = .agg (ocells (a))
  | 23 => v = .agg (ocells (b))
  | 24 => v = .agg (ocells (sha (1 :: (a ++ b))))
  | 25 => v = .agg (ocells (a))
  | 26 => v = .string (bstr a)
  | 27 => v = .string ((⟨#[1]⟩ : ByteArray) ++ bstr a)
  | 28 => v = .agg (ocells (b))
  | 29 => v = .string (bstr b)
  | 30 => v = .string ((⟨#[1]⟩ : ByteArray) ++ bstr a ++ bstr b)
  | 31 => Strs w v [(⟨#[1]⟩ : ByteArray) ++ bstr a ++ bstr b]
  | 32 => v = .agg (ocells (sha (1 :: (a ++ b))))
  | 33 => v = .bool true
  | 34 => v = .bool true
  | 35 => v = .bool true
  | 36 => v = .nilIface
  | 37 => v = .bool true
  | 38 => v = .bool true
  | 39 => v = .bool true
  | 40 => v = .agg (ocells (sha (2 :: a)))
  | 41 => v = .agg (ocells (a))
  | 42 => v = .string (bstr a)
  | 43 => v = .string ((⟨#[2]⟩ : ByteArray) ++ bstr a)
  | 44 => Strs w v [(⟨#[2]⟩ : ByteArray) ++ bstr a]
  | 45 => v = .agg (ocells (sha (2 :: a)))
  | 46 => v = .bool true
  | 47 => v = .bool true
  | 48 => v = .bool true
  | 49 => v = .agg (ocells (sha []))
  | 50 => v = .agg (ocells (sha []))
  | 51 => v = .bool true
  | 52 => v = .bool true
  | 53 => v = .bool true
  | 54 => v = .bool true
  | 55 => v = .bool true
  | 6 => v = .bool true
  | _ => True
theorem strs_one (w : World) (s : ByteArray) (n : Nat) (hn : n = w.heap.size) : Strs (w.alloc (.cells #[.string s] 9)) (.slice (some ⟨n, 0, none⟩) 1 1) [s] := by
  subst hn
  exact ⟨_, 1, rfl, Nat.le_refl _, by simp [maxLen], fun _ => ⟨w.heap.size, 0, rfl, by simp, fun i hi => by
    obtain rfl : i = 0 := by simpa using hi
    exact er_cellAt (heap_alloc_new _ _) 0 _ rfl⟩⟩
theorem cat_one (s : ByteArray) : cat [s] = sb s := by simp [cat]
theorem Strs.below {w w' : World} {v : Value} {ss : List ByteArray} (h : Strs w v ss) (k : Below w.heap.size w w') : Strs w' v ss := by
  obtain ⟨a, c, h1, h2, h3, h4⟩ := h
  refine ⟨a, c, h1, h2, h3, fun hne => ?_⟩
  obtain ⟨B, off, e1, e2, e3⟩ := h4 hne
  exact ⟨B, off, e1, Nat.lt_of_lt_of_le e2 k.size, fun i hi => (k.cell (p := ⟨B, off + i, none⟩) e2).trans (e3 i hi)⟩
theorem VS_mono (s : ByteArray) (a b : List UInt8) (n : Nat) (v : Value) (w w' : World) (h : VS s a b n v w) (k : Below w.heap.size w w') : VS s a b n v w' := by
  unfold VS at h ⊢
  split at h
  · exact h
  · exact h
  · exact h
  · exact h
  · exact Strs.below h k
  · exact h
  · exact h
  · exact h
  · exact h
  · exact h
  · exact h
  · exact h
  · exact h
  · exact h
  · exact h
  · exact h
  · exact h
  · exact Strs.below h k
  · exact h
  · exact h
  · exact h
  · exact h
  · exact h
  · exact h
  · exact h
  · exact h
  · exact h
  · exact h
  · exact h
  · exact h
  · exact Strs.below h k
  · exact h
  · exact h
  · exact h
  · exact h
  · exact h
  · exact h
  · exact h
  · exact h
  · exact h
  · exact h
  · exact h
  · exact h
  · trivial
set_option maxHeartbeats 6400000 in
theorem hashBySha_any (A : Nat → Addr) (w : World) (s : ByteArray) (hs : s.size ≤ 140737488351232) (a b : List UInt8) (ha : a.length = 32) (hb : b.length = 32) (hH : Hs A w) :
    Calls Tryd.prog 7 #[.string s, hv a, hv b] w fun e w' => e = .returned (.bool true) ∧ Below w.heap.size w w' := by
  have x0 := (HashAt.new w a ha).below (er_al (Below.refl _ _) (.cells (ocells b) 24))
  have x1 := HashAt.new (w.alloc (.cells (ocells a) 24)) b hb
  rw [show (w.alloc (.cells (ocells a) 24)).heap.size = w.heap.size + 1 by simp] at x1
  have kb : Below w.heap.size w ((w.alloc (.cells (ocells a) 24)).alloc (.cells (ocells b) 24)) := er_al (er_al (Below.refl _ _) _) _
  have HH := Bx.mk hH; have HA := Bx.mk ha; have HB := Bx.mk hb
  clear hH ha hb
  unfold hv
  go_enter Tryd.func7, Tryd.ntmps7
  go_upto_region 1 with (fail)
  change Code.wp _ _ _ _ ((w.alloc (.cells (ocells a) 24)).alloc (.cells (ocells b) 24))
  generalize (w.alloc (.cells (ocells a) 24)).alloc (.cells (ocells b) 24) = W at x0 x1 kb ⊢
  have X0 := Bx.mk x0; have X1 := Bx.mk x1; have KB := Bx.mk kb; clear x0 x1 kb
  have c1 := chain_any W a HA.out 1 (by decide) (HH.out.below KB.out).tab
  rw [hv_agg a, show chainN a 1 = sha (2 :: a) from rfl, hv_agg] at c1
  have C1 := Bx.mk c1; clear c1
  go_wp2_with (refine wpList_load_row rfl 24 (.tmp 4) rfl w.heap.size rfl _ _ _ _ X0.out.1 underH rfl (hszL HA.out) ?_)
  refine C1.out.mono ?_
  rintro e w1 ⟨rfl, hb⟩
  have B1 := Bx.mk (KB.out.trans (hb.mono KB.out.size)); have K1 := Bx.mk hb; clear hb
  go_upto_region 2 with (refine wpList_store_row rfl 24 (.tmp 7) (.tmp 12) rfl w1.heap.size (ocells (sha (2 :: a))) rfl rfl _ zeros32 (heap_alloc_new _ _) (hszL (sha_length _)) (hsoL (sha_length _)) (ocells_one _) ?_; rw [setRow_alloc_new _ _ _ _ _ rfl])
  have x2 := HashAt.new w1 (sha (2 :: a)) (sha_length _)
  have b2 := er_al (Below.refl w1.heap.size w1) (.cells (ocells (sha (2 :: a))) 24)
  generalize w1.alloc (.cells (ocells (sha (2 :: a))) 24) = w2 at x2 b2 ⊢
  generalize w1.heap.size = n7 at x2 ⊢
  have x0 := (X0.out.below K1.out).below b2
  have x1 := (X1.out.below K1.out).below b2
  have b3 := B1.out.trans (b2.mono B1.out.size)
  clear X0 X1 C1 B1 K1 b2 KB
  refine wp_region_inv (n := 56) (VS s a b) (by kernel_rfl) (by kernel_rfl) rfl (VS_mono s a b) ?_ ?_
  · intro i o hi f u hsame hbel hdep
    have hu := HH.out.below (b3.trans (hbel.mono b3.size))
    have b0 : f.tmps.getD 0 undef = .string s := hsame.slot 0 (fun i o h => invB_not (n := 56) (by kernel_rfl) 0 (by kernel_rfl) h)
    have b4 : f.tmps.getD 4 undef = .pointer (some ⟨w.heap.size, 0, none⟩) := hsame.slot 4 (fun i o h => invB_not (n := 56) (by kernel_rfl) 4 (by kernel_rfl) h)
    have b5 : f.tmps.getD 5 undef = .pointer (some ⟨w.heap.size + 1, 0, none⟩) := hsame.slot 5 (fun i o h => invB_not (n := 56) (by kernel_rfl) 5 (by kernel_rfl) h)
    have b7 : f.tmps.getD 7 undef = .pointer (some ⟨n7, 0, none⟩) := hsame.slot 7 (fun i o h => invB_not (n := 56) (by kernel_rfl) 7 (by kernel_rfl) h)
    have b8 : f.tmps.getD 8 undef = .nilIface := hsame.slot 8 (fun i o h => invB_not (n := 56) (by kernel_rfl) 8 (by kernel_rfl) h)
    match i, hi with
    | 0, hi =>
      cases (show some _ = some o from hi)
      clear hdep hsame hi
      exact ⟨wanted_none rfl, shows_move rfl _ rfl b0⟩
    | 1, hi =>
      cases (show some _ = some o from hi)
      have e14 : f.tmps.getD 14 undef = .string s := dep_of (V := VS s a b) hdep 0 14 (by kernel_rfl) (by kernel_rfl)
      clear hdep hsame hi
      have c := leaf_any u s (by omega) hu.tab
      simp only [hv_agg] at c
      exact ⟨wanted_none rfl, shows_call rfl 13 #[.string s] (by simp only [execOp, Act.eval]; go_simp) c (fun _ => rfl)⟩
    | 2, hi =>
      cases (show some _ = some o from hi)
      clear hdep hsame hi
      exact ⟨wanted_none rfl, shows_move rfl _ rfl b0⟩
    | 3, hi =>
      cases (show some _ = some o from hi)
      have e16 : f.tmps.getD 16 undef = .string s := dep_of (V := VS s a b) hdep 2 16 (by kernel_rfl) (by kernel_rfl)
      clear hdep hsame hi
      have q := run_string_add_sum (P := Tryd.prog) u ((⟨#[0]⟩ : ByteArray)) (s) (by show 1 + s.size ≤ _; omega)
      exact ⟨wanted_none rfl, shows_run rfl (.string (((⟨#[0]⟩ : ByteArray)) ++ (s))) (by simp only [execOp, Act.eval]; go_simp) (Below.refl _ _) rfl⟩
    | 4, hi =>
      cases (show some _ = some o from hi)
      have e17 : f.tmps.getD 17 undef = .string ((⟨#[0]⟩ : ByteArray) ++ s) := dep_of (V := VS s a b) hdep 3 17 (by kernel_rfl) (by kernel_rfl)
      clear hdep hsame hi
      have eq : f.tmps[17]?.getD undef = .string (((⟨#[0]⟩ : ByteArray) ++ s)) := by simpa using e17
      exact ⟨wanted_none rfl, shows_run rfl (.slice (some ⟨u.heap.size, 0, none⟩) 1 1) (w' := u.alloc (.cells #[.string (((⟨#[0]⟩ : ByteArray) ++ s))] 9)) (by simp only [execOp, Act.eval]; go_simp) (er_al (Below.refl _ _) _) (strs_one u _ _ rfl)⟩
    | 5, hi =>
      cases (show some _ = some o from hi)
      have e18 : Strs u (f.tmps.getD 18 undef) [(⟨#[0]⟩ : ByteArray) ++ s] := dep_of (V := VS s a b) hdep 4 18 (by kernel_rfl) (by kernel_rfl)
      clear hdep hsame hi
      obtain ⟨vx, hx⟩ : ∃ vx, f.tmps.getD 18 undef = vx := ⟨_, rfl⟩
      rw [hx] at e18
      have c := sum_any u _ [(⟨#[0]⟩ : ByteArray) ++ s] e18 hu.tab.tab hu.tab.lt (by rw [cat_one, sb_app, show sb ⟨#[0]⟩ ++ sb s = 0 :: sb s from rfl]; simp; rw [sb_length]; omega)
      rw [cat_one, sb_app, show sb ⟨#[0]⟩ ++ sb s = 0 :: sb s from rfl, hv_agg] at c
      exact ⟨wanted_none rfl, shows_call rfl 24 #[vx] (by simp only [execOp, Act.eval]; go_simp) c (fun _ => rfl)⟩
    | 6, hi =>
      cases (show some _ = some o from hi)
      have e15 : f.tmps.getD 15 undef = .agg (ocells (sha (0 :: sb s))) := dep_of (V := VS s a b) hdep 1 15 (by kernel_rfl) (by kernel_rfl)
      have e19 : f.tmps.getD 19 undef = .agg (ocells (sha (0 :: sb s))) := dep_of (V := VS s a b) hdep 5 19 (by kernel_rfl) (by kernel_rfl)
      clear hdep hsame hi
      have q := fun u => hv_eq u (sha (0 :: sb s)) (sha (0 :: sb s)) (sha_length _) (sha_length _)
      simp only [beq_self_eq_true, hv_agg] at q
      exact ⟨wanted_none rfl, shows_run rfl (.bool true) (by simp only [execOp, Act.eval]; go_simp) (Below.refl _ _) rfl⟩
    | 7, hi =>
      cases (show some _ = some o from hi)
      have e20 : f.tmps.getD 20 undef = .bool true := dep_of (V := VS s a b) hdep 6 20 (by kernel_rfl) (by kernel_rfl)
      clear hdep hsame hi
      exact ⟨wanted_none rfl, shows_move rfl _ rfl e20⟩
    | 8, hi =>
      cases (show some _ = some o from hi)
      have eg : f.tmps.getD 21 undef = .bool true := dep_of (V := VS s a b) hdep 7 21 (by kernel_rfl) (by kernel_rfl)
      clear hdep hsame hi
      exact ⟨wanted_of 7 rfl eg (by kernel_rfl), shows_row rfl 24 (.tmp 4) rfl w.heap.size b4 (ocells (a)) (x0.below hbel).1 underH rfl (hszL HA.out) rfl⟩
    | 9, hi =>
      cases (show some _ = some o from hi)
      have eg : f.tmps.getD 21 undef = .bool true := dep_of (V := VS s a b) hdep 7 21 (by kernel_rfl) (by kernel_rfl)
      clear hdep hsame hi
      exact ⟨wanted_of 7 rfl eg (by kernel_rfl), shows_row rfl 24 (.tmp 5) rfl (w.heap.size + 1) b5 (ocells (b)) (x1.below hbel).1 underH rfl (hszL HB.out) rfl⟩
    | 10, hi =>
      cases (show some _ = some o from hi)
      have e22 : f.tmps.getD 22 undef = .agg (ocells (a)) := dep_of (V := VS s a b) hdep 8 22 (by kernel_rfl) (by kernel_rfl)
      have e23 : f.tmps.getD 23 undef = .agg (ocells (b)) := dep_of (V := VS s a b) hdep 9 23 (by kernel_rfl) (by kernel_rfl)
      have eg : f.tmps.getD 21 undef = .bool true := dep_of (V := VS s a b) hdep 7 21 (by kernel_rfl) (by kernel_rfl)
      clear hdep hsame hi
      have c := node_any u a b HA.out HB.out hu.tab
      simp only [hv_agg] at c
      exact ⟨wanted_of 7 rfl eg (by kernel_rfl), shows_call rfl 22 #[.agg (ocells (a)), .agg (ocells (b))] (by simp only [execOp, Act.eval]; go_simp) c (fun _ => rfl)⟩
    | 11, hi =>
      cases (show some _ = some o from hi)
      have eg : f.tmps.getD 21 undef = .bool true := dep_of (V := VS s a b) hdep 7 21 (by kernel_rfl) (by kernel_rfl)
      clear hdep hsame hi
      exact ⟨wanted_of 7 rfl eg (by kernel_rfl), shows_row rfl 24 (.tmp 4) rfl w.heap.size b4 (ocells (a)) (x0.below hbel).1 underH rfl (hszL HA.out) rfl⟩
    | 12, hi =>
      cases (show some _ = some o from hi)
      have e25 : f.tmps.getD 25 undef = .agg (ocells (a)) := dep_of (V := VS s a b) hdep 11 25 (by kernel_rfl) (by kernel_rfl)
      have eg : f.tmps.getD 21 undef = .bool true := dep_of (V := VS s a b) hdep 7 21 (by kernel_rfl) (by kernel_rfl)
      clear hdep hsame hi
      have c := letters_any u a HA.out
      simp only [hv_agg] at c
      exact ⟨wanted_of 7 rfl eg (by kernel_rfl), shows_call rfl 25 #[.agg (ocells (a))] (by simp only [execOp, Act.eval]; go_simp) c (fun _ => rfl)⟩
    | 13, hi =>
      cases (show some _ = some o from hi)
      have e26 : f.tmps.getD 26 undef = .string (bstr a) := dep_of (V := VS s a b) hdep 12 26 (by kernel_rfl) (by kernel_rfl)
      have eg : f.tmps.getD 21 undef = .bool true := dep_of (V := VS s a b) hdep 7 21 (by kernel_rfl) (by kernel_rfl)
      clear hdep hsame hi
      have q := run_string_add_sum (P := Tryd.prog) u ((⟨#[1]⟩ : ByteArray)) ((bstr a)) (by rw [bstr_size, HA.out]; decide)
      exact ⟨wanted_of 7 rfl eg (by kernel_rfl), shows_run rfl (.string (((⟨#[1]⟩ : ByteArray)) ++ ((bstr a)))) (by simp only [execOp, Act.eval]; go_simp) (Below.refl _ _) rfl⟩
    | 14, hi =>
      cases (show some _ = some o from hi)
      have eg : f.tmps.getD 21 undef = .bool true := dep_of (V := VS s a b) hdep 7 21 (by kernel_rfl) (by kernel_rfl)
      clear hdep hsame hi
      exact ⟨wanted_of 7 rfl eg (by kernel_rfl), shows_row rfl 24 (.tmp 5) rfl (w.heap.size + 1) b5 (ocells (b)) (x1.below hbel).1 underH rfl (hszL HB.out) rfl⟩
    | 15, hi =>
      cases (show some _ = some o from hi)
      have e28 : f.tmps.getD 28 undef = .agg (ocells (b)) := dep_of (V := VS s a b) hdep 14 28 (by kernel_rfl) (by kernel_rfl)
      have eg : f.tmps.getD 21 undef = .bool true := dep_of (V := VS s a b) hdep 7 21 (by kernel_rfl) (by kernel_rfl)
      clear hdep hsame hi
      have c := letters_any u b HB.out
      simp only [hv_agg] at c
      exact ⟨wanted_of 7 rfl eg (by kernel_rfl), shows_call rfl 25 #[.agg (ocells (b))] (by simp only [execOp, Act.eval]; go_simp) c (fun _ => rfl)⟩
    | 16, hi =>
      cases (show some _ = some o from hi)
      have e27 : f.tmps.getD 27 undef = .string ((⟨#[1]⟩ : ByteArray) ++ bstr a) := dep_of (V := VS s a b) hdep 13 27 (by kernel_rfl) (by kernel_rfl)
      have e29 : f.tmps.getD 29 undef = .string (bstr b) := dep_of (V := VS s a b) hdep 15 29 (by kernel_rfl) (by kernel_rfl)
      have eg : f.tmps.getD 21 undef = .bool true := dep_of (V := VS s a b) hdep 7 21 (by kernel_rfl) (by kernel_rfl)
      clear hdep hsame hi
      have q := run_string_add_sum (P := Tryd.prog) u (((⟨#[1]⟩ : ByteArray) ++ bstr a)) ((bstr b)) (by rw [ByteArray.size_append, bstr_size, bstr_size, HA.out, HB.out]; decide)
      exact ⟨wanted_of 7 rfl eg (by kernel_rfl), shows_run rfl (.string ((((⟨#[1]⟩ : ByteArray) ++ bstr a)) ++ ((bstr b)))) (by simp only [execOp, Act.eval]; go_simp) (Below.refl _ _) rfl⟩
    | 17, hi =>
      cases (show some _ = some o from hi)
      have e30 : f.tmps.getD 30 undef = .string ((⟨#[1]⟩ : ByteArray) ++ bstr a ++ bstr b) := dep_of (V := VS s a b) hdep 16 30 (by kernel_rfl) (by kernel_rfl)
      have eg : f.tmps.getD 21 undef = .bool true := dep_of (V := VS s a b) hdep 7 21 (by kernel_rfl) (by kernel_rfl)
      clear hdep hsame hi
      have eq : f.tmps[30]?.getD undef = .string (((⟨#[1]⟩ : ByteArray) ++ bstr a ++ bstr b)) := by simpa using e30
      exact ⟨wanted_of 7 rfl eg (by kernel_rfl), shows_run rfl (.slice (some ⟨u.heap.size, 0, none⟩) 1 1) (w' := u.alloc (.cells #[.string (((⟨#[1]⟩ : ByteArray) ++ bstr a ++ bstr b))] 9)) (by simp only [execOp, Act.eval]; go_simp) (er_al (Below.refl _ _) _) (strs_one u _ _ rfl)⟩
    | 18, hi =>
      cases (show some _ = some o from hi)
      have e31 : Strs u (f.tmps.getD 31 undef) [(⟨#[1]⟩ : ByteArray) ++ bstr a ++ bstr b] := dep_of (V := VS s a b) hdep 17 31 (by kernel_rfl) (by kernel_rfl)
      have eg : f.tmps.getD 21 undef = .bool true := dep_of (V := VS s a b) hdep 7 21 (by kernel_rfl) (by kernel_rfl)
      clear hdep hsame hi
      obtain ⟨vx, hx⟩ : ∃ vx, f.tmps.getD 31 undef = vx := ⟨_, rfl⟩
      rw [hx] at e31
      have c := sum_any u _ [(⟨#[1]⟩ : ByteArray) ++ bstr a ++ bstr b] e31 hu.tab.tab hu.tab.lt (by rw [cat_one, sb_app, sb_app, sb_bstr, sb_bstr, show sb ⟨#[1]⟩ ++ a ++ b = 1 :: (a ++ b) from rfl]; simp; rw [HA.out, HB.out]; decide)
      rw [cat_one, sb_app, sb_app, sb_bstr, sb_bstr, show sb ⟨#[1]⟩ ++ a ++ b = 1 :: (a ++ b) from rfl, hv_agg] at c
      exact ⟨wanted_of 7 rfl eg (by kernel_rfl), shows_call rfl 24 #[vx] (by simp only [execOp, Act.eval]; go_simp) c (fun _ => rfl)⟩
    | 19, hi =>
      cases (show some _ = some o from hi)
      have e24 : f.tmps.getD 24 undef = .agg (ocells (sha (1 :: (a ++ b)))) := dep_of (V := VS s a b) hdep 10 24 (by kernel_rfl) (by kernel_rfl)
      have e32 : f.tmps.getD 32 undef = .agg (ocells (sha (1 :: (a ++ b)))) := dep_of (V := VS s a b) hdep 18 32 (by kernel_rfl) (by kernel_rfl)
      have eg : f.tmps.getD 21 undef = .bool true := dep_of (V := VS s a b) hdep 7 21 (by kernel_rfl) (by kernel_rfl)
      clear hdep hsame hi
      have q := fun u => hv_eq u (sha (1 :: (a ++ b))) (sha (1 :: (a ++ b))) (sha_length _) (sha_length _)
      simp only [beq_self_eq_true, hv_agg] at q
      exact ⟨wanted_of 7 rfl eg (by kernel_rfl), shows_run rfl (.bool true) (by simp only [execOp, Act.eval]; go_simp) (Below.refl _ _) rfl⟩
    | 20, hi =>
      cases (show some _ = some o from hi)
      have e21 : f.tmps.getD 21 undef = .bool true := dep_of (V := VS s a b) hdep 7 21 (by kernel_rfl) (by kernel_rfl)
      have e33 : f.tmps.getD 33 undef = .bool true := dep_of (V := VS s a b) hdep 19 33 (by kernel_rfl) (by kernel_rfl)
      clear hdep hsame hi
      exact ⟨wanted_none rfl, shows_run rfl (.bool true) (by simp only [execOp, Act.eval]; go_simp) (Below.refl _ _) rfl⟩
    | 21, hi =>
      cases (show some _ = some o from hi)
      have e34 : f.tmps.getD 34 undef = .bool true := dep_of (V := VS s a b) hdep 20 34 (by kernel_rfl) (by kernel_rfl)
      clear hdep hsame hi
      exact ⟨wanted_none rfl, shows_move rfl _ rfl e34⟩
    | 22, hi =>
      cases (show some _ = some o from hi)
      have eg : f.tmps.getD 35 undef = .bool true := dep_of (V := VS s a b) hdep 21 35 (by kernel_rfl) (by kernel_rfl)
      clear hdep hsame hi
      exact ⟨wanted_of 21 rfl eg (by kernel_rfl), shows_move rfl _ rfl b8⟩
    | 23, hi =>
      cases (show some _ = some o from hi)
      have e36 : f.tmps.getD 36 undef = .nilIface := dep_of (V := VS s a b) hdep 22 36 (by kernel_rfl) (by kernel_rfl)
      have eg : f.tmps.getD 35 undef = .bool true := dep_of (V := VS s a b) hdep 21 35 (by kernel_rfl) (by kernel_rfl)
      clear hdep hsame hi
      exact ⟨wanted_of 21 rfl eg (by kernel_rfl), shows_run rfl (.bool true) (by simp only [execOp, Act.eval]; go_simp) (Below.refl _ _) rfl⟩
    | 24, hi =>
      cases (show some _ = some o from hi)
      have e35 : f.tmps.getD 35 undef = .bool true := dep_of (V := VS s a b) hdep 21 35 (by kernel_rfl) (by kernel_rfl)
      have e37 : f.tmps.getD 37 undef = .bool true := dep_of (V := VS s a b) hdep 23 37 (by kernel_rfl) (by kernel_rfl)
      clear hdep hsame hi
      exact ⟨wanted_none rfl, shows_run rfl (.bool true) (by simp only [execOp, Act.eval]; go_simp) (Below.refl _ _) rfl⟩
    | 25, hi =>
      cases (show some _ = some o from hi)
      have e38 : f.tmps.getD 38 undef = .bool true := dep_of (V := VS s a b) hdep 24 38 (by kernel_rfl) (by kernel_rfl)
      clear hdep hsame hi
      exact ⟨wanted_none rfl, shows_move rfl _ rfl e38⟩
    | 26, hi =>
      cases (show some _ = some o from hi)
      have eg : f.tmps.getD 39 undef = .bool true := dep_of (V := VS s a b) hdep 25 39 (by kernel_rfl) (by kernel_rfl)
      clear hdep hsame hi
      exact ⟨wanted_of 25 rfl eg (by kernel_rfl), shows_row rfl 24 (.tmp 7) rfl n7 b7 (ocells (sha (2 :: a))) (x2.below hbel).1 underH rfl (hszL (sha_length _)) rfl⟩
    | 27, hi =>
      cases (show some _ = some o from hi)
      have eg : f.tmps.getD 39 undef = .bool true := dep_of (V := VS s a b) hdep 25 39 (by kernel_rfl) (by kernel_rfl)
      clear hdep hsame hi
      exact ⟨wanted_of 25 rfl eg (by kernel_rfl), shows_row rfl 24 (.tmp 4) rfl w.heap.size b4 (ocells (a)) (x0.below hbel).1 underH rfl (hszL HA.out) rfl⟩
    | 28, hi =>
      cases (show some _ = some o from hi)
      have e41 : f.tmps.getD 41 undef = .agg (ocells (a)) := dep_of (V := VS s a b) hdep 27 41 (by kernel_rfl) (by kernel_rfl)
      have eg : f.tmps.getD 39 undef = .bool true := dep_of (V := VS s a b) hdep 25 39 (by kernel_rfl) (by kernel_rfl)
      clear hdep hsame hi
      have c := letters_any u a HA.out
      simp only [hv_agg] at c
      exact ⟨wanted_of 25 rfl eg (by kernel_rfl), shows_call rfl 25 #[.agg (ocells (a))] (by simp only [execOp, Act.eval]; go_simp) c (fun _ => rfl)⟩
    | 29, hi =>
      cases (show some _ = some o from hi)
      have e42 : f.tmps.getD 42 undef = .string (bstr a) := dep_of (V := VS s a b) hdep 28 42 (by kernel_rfl) (by kernel_rfl)
      have eg : f.tmps.getD 39 undef = .bool true := dep_of (V := VS s a b) hdep 25 39 (by kernel_rfl) (by kernel_rfl)
      clear hdep hsame hi
      have q := run_string_add_sum (P := Tryd.prog) u ((⟨#[2]⟩ : ByteArray)) ((bstr a)) (by rw [bstr_size, HA.out]; decide)
      exact ⟨wanted_of 25 rfl eg (by kernel_rfl), shows_run rfl (.string (((⟨#[2]⟩ : ByteArray)) ++ ((bstr a)))) (by simp only [execOp, Act.eval]; go_simp) (Below.refl _ _) rfl⟩
    | 30, hi =>
      cases (show some _ = some o from hi)
      have e43 : f.tmps.getD 43 undef = .string ((⟨#[2]⟩ : ByteArray) ++ bstr a) := dep_of (V := VS s a b) hdep 29 43 (by kernel_rfl) (by kernel_rfl)
      have eg : f.tmps.getD 39 undef = .bool true := dep_of (V := VS s a b) hdep 25 39 (by kernel_rfl) (by kernel_rfl)
      clear hdep hsame hi
      have eq : f.tmps[43]?.getD undef = .string (((⟨#[2]⟩ : ByteArray) ++ bstr a)) := by simpa using e43
      exact ⟨wanted_of 25 rfl eg (by kernel_rfl), shows_run rfl (.slice (some ⟨u.heap.size, 0, none⟩) 1 1) (w' := u.alloc (.cells #[.string (((⟨#[2]⟩ : ByteArray) ++ bstr a))] 9)) (by simp only [execOp, Act.eval]; go_simp) (er_al (Below.refl _ _) _) (strs_one u _ _ rfl)⟩
    | 31, hi =>
      cases (show some _ = some o from hi)
      have e44 : Strs u (f.tmps.getD 44 undef) [(⟨#[2]⟩ : ByteArray) ++ bstr a] := dep_of (V := VS s a b) hdep 30 44 (by kernel_rfl) (by kernel_rfl)
      have eg : f.tmps.getD 39 undef = .bool true := dep_of (V := VS s a b) hdep 25 39 (by kernel_rfl) (by kernel_rfl)
      clear hdep hsame hi
      obtain ⟨vx, hx⟩ : ∃ vx, f.tmps.getD 44 undef = vx := ⟨_, rfl⟩
      rw [hx] at e44
      have c := sum_any u _ [(⟨#[2]⟩ : ByteArray) ++ bstr a] e44 hu.tab.tab hu.tab.lt (by rw [cat_one, sb_app, sb_bstr, show sb ⟨#[2]⟩ ++ a = 2 :: a from rfl]; simp; rw [HA.out]; decide)
      rw [cat_one, sb_app, sb_bstr, show sb ⟨#[2]⟩ ++ a = 2 :: a from rfl, hv_agg] at c
      exact ⟨wanted_of 25 rfl eg (by kernel_rfl), shows_call rfl 24 #[vx] (by simp only [execOp, Act.eval]; go_simp) c (fun _ => rfl)⟩
    | 32, hi =>
      cases (show some _ = some o from hi)
      have e40 : f.tmps.getD 40 undef = .agg (ocells (sha (2 :: a))) := dep_of (V := VS s a b) hdep 26 40 (by kernel_rfl) (by kernel_rfl)
      have e45 : f.tmps.getD 45 undef = .agg (ocells (sha (2 :: a))) := dep_of (V := VS s a b) hdep 31 45 (by kernel_rfl) (by kernel_rfl)
      have eg : f.tmps.getD 39 undef = .bool true := dep_of (V := VS s a b) hdep 25 39 (by kernel_rfl) (by kernel_rfl)
      clear hdep hsame hi
      have q := fun u => hv_eq u (sha (2 :: a)) (sha (2 :: a)) (sha_length _) (sha_length _)
      simp only [beq_self_eq_true, hv_agg] at q
      exact ⟨wanted_of 25 rfl eg (by kernel_rfl), shows_run rfl (.bool true) (by simp only [execOp, Act.eval]; go_simp) (Below.refl _ _) rfl⟩
    | 33, hi =>
      cases (show some _ = some o from hi)
      have e39 : f.tmps.getD 39 undef = .bool true := dep_of (V := VS s a b) hdep 25 39 (by kernel_rfl) (by kernel_rfl)
      have e46 : f.tmps.getD 46 undef = .bool true := dep_of (V := VS s a b) hdep 32 46 (by kernel_rfl) (by kernel_rfl)
      clear hdep hsame hi
      exact ⟨wanted_none rfl, shows_run rfl (.bool true) (by simp only [execOp, Act.eval]; go_simp) (Below.refl _ _) rfl⟩
    | 34, hi =>
      cases (show some _ = some o from hi)
      have e47 : f.tmps.getD 47 undef = .bool true := dep_of (V := VS s a b) hdep 33 47 (by kernel_rfl) (by kernel_rfl)
      clear hdep hsame hi
      exact ⟨wanted_none rfl, shows_move rfl _ rfl e47⟩
    | 35, hi =>
      cases (show some _ = some o from hi)
      have eg : f.tmps.getD 48 undef = .bool true := dep_of (V := VS s a b) hdep 34 48 (by kernel_rfl) (by kernel_rfl)
      clear hdep hsame hi
      have c := empty_any u hu.tab
      simp only [hv_agg] at c
      exact ⟨wanted_of 34 rfl eg (by kernel_rfl), shows_call rfl 15 #[] (by simp only [execOp, Act.eval]; go_simp) c (fun _ => rfl)⟩
    | 36, hi =>
      cases (show some _ = some o from hi)
      have eg : f.tmps.getD 48 undef = .bool true := dep_of (V := VS s a b) hdep 34 48 (by kernel_rfl) (by kernel_rfl)
      clear hdep hsame hi
      have c := sum_any u _ [] (strs_nil u) hu.tab.tab hu.tab.lt (by simp [cat])
      rw [show cat [] = [] from rfl, hv_agg] at c
      exact ⟨wanted_of 34 rfl eg (by kernel_rfl), shows_call rfl 24 #[.slice none 0 0] (by simp only [execOp, Act.eval]; go_simp) c (fun _ => rfl)⟩
    | 37, hi =>
      cases (show some _ = some o from hi)
      have e49 : f.tmps.getD 49 undef = .agg (ocells (sha [])) := dep_of (V := VS s a b) hdep 35 49 (by kernel_rfl) (by kernel_rfl)
      have e50 : f.tmps.getD 50 undef = .agg (ocells (sha [])) := dep_of (V := VS s a b) hdep 36 50 (by kernel_rfl) (by kernel_rfl)
      have eg : f.tmps.getD 48 undef = .bool true := dep_of (V := VS s a b) hdep 34 48 (by kernel_rfl) (by kernel_rfl)
      clear hdep hsame hi
      have q := fun u => hv_eq u (sha []) (sha []) (sha_length _) (sha_length _)
      simp only [beq_self_eq_true, hv_agg] at q
      exact ⟨wanted_of 34 rfl eg (by kernel_rfl), shows_run rfl (.bool true) (by simp only [execOp, Act.eval]; go_simp) (Below.refl _ _) rfl⟩
    | 38, hi =>
      cases (show some _ = some o from hi)
      have e48 : f.tmps.getD 48 undef = .bool true := dep_of (V := VS s a b) hdep 34 48 (by kernel_rfl) (by kernel_rfl)
      have e51 : f.tmps.getD 51 undef = .bool true := dep_of (V := VS s a b) hdep 37 51 (by kernel_rfl) (by kernel_rfl)
      clear hdep hsame hi
      exact ⟨wanted_none rfl, shows_run rfl (.bool true) (by simp only [execOp, Act.eval]; go_simp) (Below.refl _ _) rfl⟩
    | 39, hi =>
      cases (show some _ = some o from hi)
      have e52 : f.tmps.getD 52 undef = .bool true := dep_of (V := VS s a b) hdep 38 52 (by kernel_rfl) (by kernel_rfl)
      clear hdep hsame hi
      exact ⟨wanted_none rfl, shows_move rfl _ rfl e52⟩
    | 40, hi =>
      cases (show some _ = some o from hi)
      have eg : f.tmps.getD 53 undef = .bool true := dep_of (V := VS s a b) hdep 39 53 (by kernel_rfl) (by kernel_rfl)
      clear hdep hsame hi
      have c := lives_any A u hu
      exact ⟨wanted_of 39 rfl eg (by kernel_rfl), shows_call rfl 17 #[] (by simp only [execOp, Act.eval]; go_simp) c (fun _ => rfl)⟩
    | 41, hi =>
      cases (show some _ = some o from hi)
      have e53 : f.tmps.getD 53 undef = .bool true := dep_of (V := VS s a b) hdep 39 53 (by kernel_rfl) (by kernel_rfl)
      have e54 : f.tmps.getD 54 undef = .bool true := dep_of (V := VS s a b) hdep 40 54 (by kernel_rfl) (by kernel_rfl)
      clear hdep hsame hi
      exact ⟨wanted_none rfl, shows_run rfl (.bool true) (by simp only [execOp, Act.eval]; go_simp) (Below.refl _ _) rfl⟩
    | 42, hi =>
      cases (show some _ = some o from hi)
      have e55 : f.tmps.getD 55 undef = .bool true := dep_of (V := VS s a b) hdep 41 55 (by kernel_rfl) (by kernel_rfl)
      clear hdep hsame hi
      exact ⟨wanted_none rfl, shows_assign rfl _ rfl e55⟩
    | n + 43, hi => exact absurd hi (by simp)
  · intro f u hsame hbel hall
    have e6 : f.tmps.getD 6 undef = .bool true := hall 42 _ 6 rfl rfl
    have hd : f.defers = [] := hsame.defers
    refine ‹∀ (a : Act) (w : World), Code.wp _ Code.ret _ a w → _› f u ?_
    exact wp_ret (bodyPost_ret (results_tmp rfl _ _ _) hd ⟨by rw [e6], b3.trans (hbel.mono b3.size)⟩)
end Go.Proofs.YtecdaokgnkhgiaaDoor