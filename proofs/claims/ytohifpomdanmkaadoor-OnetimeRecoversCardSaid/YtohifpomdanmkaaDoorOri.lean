/- cartularylaw22.alive. -/
import Derived.Test.YtohifpomdanmkaaDoorOrh
import Derived.Test.YtohifpomdanmkaaDoorG3
import Derived.Great.BuildSlice
import Derived.Lib.Strings
namespace Go.Proofs.YtohifpomdanmkaaDoor
set_option maxRecDepth 100000
open Go.RowKit
theorem shows_mid {P : Program} {Q : Exit → Act → World → Prop} {V : Nat → Value → World → Prop} {o : Oper} {a : Act} {w : World} {d' : Nat} (hdst : o.dst = some d') (ty : TypeId) (x : Operand) (ho : o.op = .load ty x)
    (g q : Nat) (hx : a.eval x = .pointer (some ⟨g, q, none⟩)) (cs : List Value) {d : TypeDesc} (hg : w.rangeAt g q cs)
    (hu : P.underlying ty = some d) (hd : d.isRow = true) (hi : (P.info? ty).map (·.size) = some cs.length) (hv : V d' (.agg cs.toArray) w) : Shows P Q V o a w := by
  intro K hK
  exact wp_load_mid ty x ho g q hx cs d hg hu hd hi (hK _ _ (fun d'' h => by rw [hdst] at h; cases h; exact hv) (Below.refl _ _))
theorem strs_one (w : World) (s : ByteArray) (n : Nat) (hn : n = w.heap.size) : Strs (w.alloc (.cells #[.string s] 9)) (.slice (some ⟨n, 0, none⟩) 1 1) [s] := by
  subst hn
  exact ⟨_, 1, rfl, Nat.le_refl _, by simp [maxLen], fun _ => ⟨w.heap.size, 0, rfl, by simp, fun i hi => by
    obtain rfl : i = 0 := by simpa using hi
    exact er_cellAt (heap_alloc_new _ _) 0 _ rfl⟩⟩
theorem cat_one (s : ByteArray) : cat [s] = sb s := by simp [cat]
theorem Strs.below {w w' : World} {v : Value} {ss : List ByteArray} (h : Strs w v ss) (k : Below w.heap.size w w') : Strs w' v ss := by
  obtain ⟨a, c, h1, h2, h3, h4⟩ := h
  refine ⟨a, c, h1, h2, h3, fun hne => ?_⟩
  obtain ⟨B, off, e1, e2, e3⟩ := h4 hne
  exact ⟨B, off, e1, Nat.lt_of_lt_of_le e2 k.size, fun i hi => (k.cell (p := ⟨B, off + i, none⟩) e2).trans (e3 i hi)⟩
theorem sb_cat (a b : ByteArray) : sb (a ++ b) = sb a ++ sb b := by simp [sb]
def zT : ByteArray := (⟨#[3]⟩ ++ bstr zero32') ++ ⟨#[0, 0]⟩
theorem zT_sb : sb zT = 3 :: (zero32' ++ [UInt8.ofNat (0 / 256), UInt8.ofNat 0]) := by
  unfold zT; rw [sb_cat, sb_cat, sb_bstr]; rfl
theorem z_l : zero32'.length = 32 := rfl
theorem sumZ : sha (sb zT) = beginB zero32' 0 := by rw [zT_sb]; rfl
theorem rows66 : ((rowOf (signB zero32' zero32') 67).take 66).length = 66 := by rw [List.length_take, rowOf_length]; rfl
theorem rec_66 (A : Nat → Addr) : recV A zero32' ((rowOf (signB zero32' zero32') 67).take 66) = .tuple #[.agg (ocells zero32'), argErr A] := by
  unfold recV; rw [if_neg (by rw [rows66]; decide)]; rfl
theorem rec_67 (A : Nat → Addr) (s m : List UInt8) : recV A m (rowOf (signB s m) 67) = .tuple #[.agg (ocells (publicB s)), .nilIface] := by
  unfold recV; rw [if_pos (rowOf_length _ _), recover_sign]; rfl
theorem row_first (s m : List UInt8) {w : World} {g : Nat} (h : SlP w g (rowOf (signB s m) 67)) : w.rangeAt g 0 (bcells (signB s m 0)) := by
  have := h.at' 0 (by rw [rowOf_length]; decide)
  rw [Nat.zero_mul] at this
  have e : (rowOf (signB s m) 67)[0]'(by rw [rowOf_length]; decide) = signB s m 0 := by simp [rowOf]
  rwa [e] at this
theorem pub_len (s : List UInt8) : (publicB s).length = 32 := sha_length _
def VO3 (n1 g : Nat) (b0 : List UInt8) (sl : Nat) (v : Value) (w : World) : Prop :=
  match sl with
  | 10 => v = .slice (some ⟨g, 0, none⟩) 67 67
  | 11 => v = .int .i64 67
  | 12 => v = .bool false
  | 13 => v = .bool false
  | 14 => v = .slice (some ⟨g, 0, none⟩) 67 67
  | 15 => v = .pointer (some ⟨g, 0, none⟩)
  | 16 => v = .agg (ocells (b0))
  | 17 => v = .slice (some ⟨n1, 0, none⟩) 32 32
  | 18 => v = .string (bstr zero32')
  | 19 => v = .string ((⟨#[3]⟩ : ByteArray) ++ bstr zero32')
  | 20 => v = .string zT
  | 21 => Strs w v [zT]
  | 22 => v = .agg (ocells (b0))
  | 23 => v = .bool false
  | 24 => v = .bool false
  | 25 => v = .bool false
  | 26 => v = .slice (some ⟨g, 0, none⟩) 67 67
  | 27 => v = .pointer (some ⟨g, 0, none⟩)
  | 28 => v = .agg (ocells (b0))
  | 29 => v = .agg (ocells (zero32'))
  | 30 => v = .bool false
  | 31 => v = .bool false
  | _ => True
theorem VO3_mono (n1 g : Nat) (b0 : List UInt8) (sl : Nat) (v : Value) (w w' : World) (h : VO3 n1 g b0 sl v w) (k : Below w.heap.size w w') : VO3 n1 g b0 sl v w' := by
  unfold VO3 at h ⊢
  split at h
  · exact h
  · exact h
  · exact h
  · exact h
  · exact h
  · exact h
  · exact h
  · exact h
  · exact h
  · exact h
  · exact h
  · exact Strs.below h k
  · exact h
  · exact h
  · exact h
  · exact h
  · exact h
  · exact h
  · exact h
  · exact h
  · exact h
  · exact h
  · trivial

def VO6 (A : Nat → Addr) (_n1 g : Nat) (oi : Nat) (v : Value) (own : Nat → Option Nat) (w : World) : Prop :=
  match oi with
  | 0 => v = .agg (ocells (zero32'))
  | 1 => v = .slice (some ⟨g, 0, none⟩) 67 67
  | 2 => v = .slice (some ⟨g, 0, none⟩) 66 67
  | 3 => v = .tuple #[.agg (ocells zero32'), argErr A]
  | 4 => v = .tuple #[.agg (ocells zero32'), argErr A]
  | 5 => v = .agg (ocells (zero32'))
  | 6 => v = argErr A
  | 7 => AllocV own w v 8 23 32
  | 8 => StoredV own w 8 23 (ocells zero32')
  | 9 => v = argErr A
  | _ => True
def VO6mk : Nat → Option Nat := fun j => match j with | 8 => some 7 | _ => none
theorem VO6_mono (A : Nat → Addr) (n1 g : Nat) (oi oj : Nat) (v : Value) (own : Nat → Option Nat) (w : World) (own' : Nat → Option Nat) (w' : World) (hij : oi ≠ oj) (h : VO6 A n1 g oj v own w) (r : Rel VO6mk oi own w own' w') : VO6 A n1 g oj v own' w' := by
  unfold VO6 at h ⊢
  split at h
  · exact h
  · exact h
  · exact h
  · exact h
  · exact h
  · exact h
  · exact h
  · exact h.stable r rfl hij
  · exact h.stable r hij
  · exact h
  · trivial

def VO7 (A : Nat → Addr) (_n1 _n3 _g : Nat) (pb : List UInt8) (sl : Nat) (v : Value) (_w : World) : Prop :=
  match sl with
  | 45 => v = .nilIface
  | 46 => v = .bool true
  | 47 => v = .bool true
  | 48 => v = .agg (ocells (pb))
  | 49 => v = .agg (ocells (zero32'))
  | 50 => v = .agg (ocells (pb))
  | 51 => v = .bool true
  | 52 => v = .bool true
  | 53 => v = .bool true
  | 54 => v = .agg (ocells (pb))
  | 55 => v = .agg (ocells (zero32'))
  | 56 => v = .bool true
  | 57 => v = .bool true
  | 58 => v = .bool true
  | 59 => v = argErr A
  | 60 => v = .bool true
  | 61 => v = .bool true
  | 0 => v = .bool true
  | _ => True
theorem VO7_mono (A : Nat → Addr) (n1 n3 g : Nat) (pb : List UInt8) (sl : Nat) (v : Value) (w w' : World) (h : VO7 A n1 n3 g pb sl v w) (_k : Below w.heap.size w w') : VO7 A n1 n3 g pb sl v w' := by
  unfold VO7 at h ⊢
  split at h
  · exact h
  · exact h
  · exact h
  · exact h
  · exact h
  · exact h
  · exact h
  · exact h
  · exact h
  · exact h
  · exact h
  · exact h
  · exact h
  · exact h
  · exact h
  · exact h
  · exact h
  · exact h
  · trivial

set_option maxHeartbeats 6400000 in
theorem alive_any (A : Nat → Addr) (w : World) (hT : Hs A w) : Calls Tryd.prog 14 #[] w fun e w' => e = .returned (.bool true) ∧ Below w.heap.size w w' := by
  have HT := Bx.mk hT
  clear hT
  obtain ⟨b0, hb0⟩ : ∃ b, beginB zero32' 0 = b := ⟨_, rfl⟩
  obtain ⟨pb, hpb⟩ : ∃ b, publicB zero32' = b := ⟨_, rfl⟩
  have B0L := Bx.mk (show b0.length = 32 by rw [← hb0]; exact beginB_length _ _)
  have SGN := Bx.mk (show signB zero32' zero32' 0 = b0 by rw [← hb0]; exact sign_zero)
  have SMZ := Bx.mk (show sha (sb zT) = b0 by rw [← hb0]; exact sumZ)
  have BNE := Bx.mk (show b0 ≠ zero32' by rw [← hb0]; exact begin_ne)
  have PBL := Bx.mk (show pb.length = 32 by rw [← hpb]; exact pub_len _)
  have PNE := Bx.mk (show pb ≠ zero32' by rw [← hpb]; exact public_ne)
  have PBE := Bx.mk hpb
  clear hb0 hpb
  go_enter Tryd.func14, Tryd.ntmps14
  go_upto_region 2 with (fail)
  have x1 := HashAt.new w zero32' z_l
  have k1 := er_al (Below.refl w.heap.size w) (.cells (ocells zero32') 23)
  change Code.wp _ _ _ _ (w.alloc (.cells (ocells zero32') 23))
  generalize w.alloc (.cells (ocells zero32') 23) = w1 at x1 k1 ⊢
  obtain ⟨n1, hn1⟩ : ∃ n, n = w.heap.size := ⟨_, rfl⟩
  rw [← hn1] at x1 ⊢
  have X1 := Bx.mk x1; have K1 := Bx.mk k1
  clear x1 k1 hn1
  go_wp2_with (first
    | (guard_target =~ wpList _ _ _ (⟨some 7, _, _, _, _, _⟩ :: _) _ _; refine wpList_load_row rfl 23 (.tmp 1) rfl n1 rfl _ _ _ _ X1.out.1 underH rfl (hszL z_l) ?_)
    | (guard_target =~ wpList _ _ _ (⟨some 8, _, _, _, _, _⟩ :: _) _ _; refine wpList_load_row rfl 23 (.tmp 1) rfl n1 rfl _ _ _ _ X1.out.1 underH rfl (hszL z_l) ?_))
  have cs := sign_any w1 zero32' zero32' z_l z_l (HT.out.below K1.out).tab
  rw [hv_agg] at cs
  refine cs.mono ?_
  clear cs
  rintro e w2 ⟨g, rfl, _, hsp, hb⟩
  have Y1 := Bx.mk (X1.out.below hb); have SP := Bx.mk hsp; have KB := Bx.mk (K1.out.trans (hb.mono K1.out.size))
  clear hb hsp X1 K1
  have X1 := Y1
  clear Y1
  go_upto_region 3 with (fail)
  refine wp_region_inv (n := 62) (VO3 n1 g b0) (by kernel_rfl) (by kernel_rfl) rfl (VO3_mono n1 g b0) ?_ ?_
  · intro oi o hi f u hsame hbel hdep
    have hu := HT.out.below (KB.out.trans (hbel.mono KB.out.size))
    match oi, hi with
    | 0, hi =>
      cases (show some _ = some o from hi)
      have e2 : f.tmps.getD 2 undef = .slice (some ⟨g, 0, none⟩) 67 67 := hsame.slot 2 (fun _ _ h => invB_not (n := 62) (by kernel_rfl) 2 (by kernel_rfl) h)
      clear hdep hsame hi
      exact ⟨wanted_none rfl, shows_move rfl _ rfl e2⟩
    | 1, hi =>
      cases (show some _ = some o from hi)
      have e10 : f.tmps.getD 10 undef = .slice (some ⟨g, 0, none⟩) 67 67 := dep_of (V := (VO3 n1 g b0)) hdep 0 10 (by kernel_rfl) (by kernel_rfl)
      clear hdep hsame hi
      exact ⟨wanted_none rfl, shows_run rfl (.int .i64 67) (by simp only [execOp, Act.eval]; go_simp) (Below.refl _ _) rfl⟩
    | 2, hi =>
      cases (show some _ = some o from hi)
      have e11 : f.tmps.getD 11 undef = .int .i64 67 := dep_of (V := (VO3 n1 g b0)) hdep 1 11 (by kernel_rfl) (by kernel_rfl)
      clear hdep hsame hi
      exact ⟨wanted_none rfl, shows_run rfl (.bool false) (by simp only [execOp, Act.eval]; go_simp) (Below.refl _ _) rfl⟩
    | 3, hi =>
      cases (show some _ = some o from hi)
      have e12 : f.tmps.getD 12 undef = .bool false := dep_of (V := (VO3 n1 g b0)) hdep 2 12 (by kernel_rfl) (by kernel_rfl)
      clear hdep hsame hi
      exact ⟨wanted_none rfl, shows_move rfl _ rfl e12⟩
    | 4, hi =>
      cases (show some _ = some o from hi)
      have e2 : f.tmps.getD 2 undef = .slice (some ⟨g, 0, none⟩) 67 67 := hsame.slot 2 (fun _ _ h => invB_not (n := 62) (by kernel_rfl) 2 (by kernel_rfl) h)
      have eg : f.tmps.getD 13 undef = .bool false := dep_of (V := (VO3 n1 g b0)) hdep 3 13 (by kernel_rfl) (by kernel_rfl)
      clear hdep hsame hi
      exact ⟨wanted_of 3 rfl eg (by kernel_rfl), shows_move rfl _ rfl e2⟩
    | 5, hi =>
      cases (show some _ = some o from hi)
      have e14 : f.tmps.getD 14 undef = .slice (some ⟨g, 0, none⟩) 67 67 := dep_of (V := (VO3 n1 g b0)) hdep 4 14 (by kernel_rfl) (by kernel_rfl)
      have eg : f.tmps.getD 13 undef = .bool false := dep_of (V := (VO3 n1 g b0)) hdep 3 13 (by kernel_rfl) (by kernel_rfl)
      clear hdep hsame hi
      exact ⟨wanted_of 3 rfl eg (by kernel_rfl), shows_run rfl (.pointer (some ⟨g, 0, none⟩)) (by simp only [execOp, Act.eval]; go_simp) (Below.refl _ _) rfl⟩
    | 6, hi =>
      cases (show some _ = some o from hi)
      have e15 : f.tmps.getD 15 undef = .pointer (some ⟨g, 0, none⟩) := dep_of (V := (VO3 n1 g b0)) hdep 5 15 (by kernel_rfl) (by kernel_rfl)
      have eg : f.tmps.getD 13 undef = .bool false := dep_of (V := (VO3 n1 g b0)) hdep 3 13 (by kernel_rfl) (by kernel_rfl)
      clear hdep hsame hi
      have hr := row_first _ _ (SP.out.below hbel)
      rw [SGN.out] at hr
      exact ⟨wanted_of 3 rfl eg (by kernel_rfl), shows_mid rfl 23 (.tmp 15) rfl g (0) e15 (bcells (b0)) hr underH rfl (hszB' B0L.out) rfl⟩
    | 7, hi =>
      cases (show some _ = some o from hi)
      have e1 : f.tmps.getD 1 undef = .pointer (some ⟨n1, 0, none⟩) := hsame.slot 1 (fun _ _ h => invB_not (n := 62) (by kernel_rfl) 1 (by kernel_rfl) h)
      have eg : f.tmps.getD 13 undef = .bool false := dep_of (V := (VO3 n1 g b0)) hdep 3 13 (by kernel_rfl) (by kernel_rfl)
      clear hdep hsame hi
      exact ⟨wanted_of 3 rfl eg (by kernel_rfl), shows_run rfl (.slice (some ⟨n1, 0, none⟩) 32 32) (by simp only [execOp, Act.eval]; go_simp) (Below.refl _ _) rfl⟩
    | 8, hi =>
      cases (show some _ = some o from hi)
      have e17 : f.tmps.getD 17 undef = .slice (some ⟨n1, 0, none⟩) 32 32 := dep_of (V := (VO3 n1 g b0)) hdep 7 17 (by kernel_rfl) (by kernel_rfl)
      have eg : f.tmps.getD 13 undef = .bool false := dep_of (V := (VO3 n1 g b0)) hdep 3 13 (by kernel_rfl) (by kernel_rfl)
      clear hdep hsame hi
      have q := str_row (X1.out.below hbel).1 z_l
      exact ⟨wanted_of 3 rfl eg (by kernel_rfl), shows_run rfl (.string (bstr zero32')) (by simp only [execOp, Act.eval]; go_simp) (Below.refl _ _) rfl⟩
    | 9, hi =>
      cases (show some _ = some o from hi)
      have e18 : f.tmps.getD 18 undef = .string (bstr zero32') := dep_of (V := (VO3 n1 g b0)) hdep 8 18 (by kernel_rfl) (by kernel_rfl)
      have eg : f.tmps.getD 13 undef = .bool false := dep_of (V := (VO3 n1 g b0)) hdep 3 13 (by kernel_rfl) (by kernel_rfl)
      clear hdep hsame hi
      have q := run_string_add_sum (P := Tryd.prog) u (⟨#[3]⟩ : ByteArray) (bstr zero32') (by rw [bstr_size]; decide)
      exact ⟨wanted_of 3 rfl eg (by kernel_rfl), shows_run rfl (.string ((⟨#[3]⟩ : ByteArray) ++ bstr zero32')) (by simp only [execOp, Act.eval]; go_simp) (Below.refl _ _) rfl⟩
    | 10, hi =>
      cases (show some _ = some o from hi)
      have e19 : f.tmps.getD 19 undef = .string ((⟨#[3]⟩ : ByteArray) ++ bstr zero32') := dep_of (V := (VO3 n1 g b0)) hdep 9 19 (by kernel_rfl) (by kernel_rfl)
      have eg : f.tmps.getD 13 undef = .bool false := dep_of (V := (VO3 n1 g b0)) hdep 3 13 (by kernel_rfl) (by kernel_rfl)
      clear hdep hsame hi
      have q := run_string_add_sum (P := Tryd.prog) u ((⟨#[3]⟩ : ByteArray) ++ bstr zero32') (⟨#[0, 0]⟩ : ByteArray) (by decide)
      exact ⟨wanted_of 3 rfl eg (by kernel_rfl), shows_run rfl (.string zT) (by simp only [execOp, Act.eval]; go_simp; first | rfl | skip) (Below.refl _ _) rfl⟩
    | 11, hi =>
      cases (show some _ = some o from hi)
      have e20 : f.tmps.getD 20 undef = .string zT := dep_of (V := (VO3 n1 g b0)) hdep 10 20 (by kernel_rfl) (by kernel_rfl)
      have eg : f.tmps.getD 13 undef = .bool false := dep_of (V := (VO3 n1 g b0)) hdep 3 13 (by kernel_rfl) (by kernel_rfl)
      clear hdep hsame hi
      have eq20 : f.tmps[20]?.getD undef = .string zT := by simpa using e20
      exact ⟨wanted_of 3 rfl eg (by kernel_rfl), shows_run rfl (.slice (some ⟨u.heap.size, 0, none⟩) 1 1) (w' := u.alloc (.cells #[.string zT] 9)) (by simp only [execOp, Act.eval]; go_simp) (er_al (Below.refl _ _) _) (strs_one u _ _ rfl)⟩
    | 12, hi =>
      cases (show some _ = some o from hi)
      have e21 : Strs u (f.tmps.getD 21 undef) [zT] := dep_of (V := (VO3 n1 g b0)) hdep 11 21 (by kernel_rfl) (by kernel_rfl)
      have eg : f.tmps.getD 13 undef = .bool false := dep_of (V := (VO3 n1 g b0)) hdep 3 13 (by kernel_rfl) (by kernel_rfl)
      clear hdep hsame hi
      obtain ⟨vx, hx⟩ : ∃ vx, f.tmps.getD 21 undef = vx := ⟨_, rfl⟩
      rw [hx] at e21
      have c := sum_any u vx [zT] e21 hu.tab.tab hu.tab.lt (by rw [cat_one, zT_sb]; decide)
      rw [cat_one, SMZ.out, hv_agg] at c
      exact ⟨wanted_of 3 rfl eg (by kernel_rfl), shows_call rfl 19 #[vx] (by simp only [execOp, Act.eval]; go_simp) (c) (fun _ => rfl)⟩
    | 13, hi =>
      cases (show some _ = some o from hi)
      have e16 : f.tmps.getD 16 undef = .agg (ocells (b0)) := dep_of (V := (VO3 n1 g b0)) hdep 6 16 (by kernel_rfl) (by kernel_rfl)
      have e22 : f.tmps.getD 22 undef = .agg (ocells (b0)) := dep_of (V := (VO3 n1 g b0)) hdep 12 22 (by kernel_rfl) (by kernel_rfl)
      have eg : f.tmps.getD 13 undef = .bool false := dep_of (V := (VO3 n1 g b0)) hdep 3 13 (by kernel_rfl) (by kernel_rfl)
      clear hdep hsame hi
      have q := fun u => hv_neq u (b0) (b0) B0L.out B0L.out
      simp only [beq_self_eq_true, hv_agg, Bool.not_true] at q
      exact ⟨wanted_of 3 rfl eg (by kernel_rfl), shows_run rfl (.bool false) (by simp only [execOp, Act.eval]; go_simp) (Below.refl _ _) rfl⟩
    | 14, hi =>
      cases (show some _ = some o from hi)
      have e13 : f.tmps.getD 13 undef = .bool false := dep_of (V := (VO3 n1 g b0)) hdep 3 13 (by kernel_rfl) (by kernel_rfl)
      have e23 : f.tmps.getD 23 undef = .bool false := dep_of (V := (VO3 n1 g b0)) hdep 13 23 (by kernel_rfl) (by kernel_rfl)
      clear hdep hsame hi
      exact ⟨wanted_none rfl, shows_run rfl (.bool false) (by simp only [execOp, Act.eval]; go_simp) (Below.refl _ _) rfl⟩
    | 15, hi =>
      cases (show some _ = some o from hi)
      have e24 : f.tmps.getD 24 undef = .bool false := dep_of (V := (VO3 n1 g b0)) hdep 14 24 (by kernel_rfl) (by kernel_rfl)
      clear hdep hsame hi
      exact ⟨wanted_none rfl, shows_move rfl _ rfl e24⟩
    | 16, hi =>
      cases (show some _ = some o from hi)
      have e2 : f.tmps.getD 2 undef = .slice (some ⟨g, 0, none⟩) 67 67 := hsame.slot 2 (fun _ _ h => invB_not (n := 62) (by kernel_rfl) 2 (by kernel_rfl) h)
      have eg : f.tmps.getD 25 undef = .bool false := dep_of (V := (VO3 n1 g b0)) hdep 15 25 (by kernel_rfl) (by kernel_rfl)
      clear hdep hsame hi
      exact ⟨wanted_of 15 rfl eg (by kernel_rfl), shows_move rfl _ rfl e2⟩
    | 17, hi =>
      cases (show some _ = some o from hi)
      have e26 : f.tmps.getD 26 undef = .slice (some ⟨g, 0, none⟩) 67 67 := dep_of (V := (VO3 n1 g b0)) hdep 16 26 (by kernel_rfl) (by kernel_rfl)
      have eg : f.tmps.getD 25 undef = .bool false := dep_of (V := (VO3 n1 g b0)) hdep 15 25 (by kernel_rfl) (by kernel_rfl)
      clear hdep hsame hi
      exact ⟨wanted_of 15 rfl eg (by kernel_rfl), shows_run rfl (.pointer (some ⟨g, 0, none⟩)) (by simp only [execOp, Act.eval]; go_simp) (Below.refl _ _) rfl⟩
    | 18, hi =>
      cases (show some _ = some o from hi)
      have e27 : f.tmps.getD 27 undef = .pointer (some ⟨g, 0, none⟩) := dep_of (V := (VO3 n1 g b0)) hdep 17 27 (by kernel_rfl) (by kernel_rfl)
      have eg : f.tmps.getD 25 undef = .bool false := dep_of (V := (VO3 n1 g b0)) hdep 15 25 (by kernel_rfl) (by kernel_rfl)
      clear hdep hsame hi
      have hr := row_first _ _ (SP.out.below hbel)
      rw [SGN.out] at hr
      exact ⟨wanted_of 15 rfl eg (by kernel_rfl), shows_mid rfl 23 (.tmp 27) rfl g (0) e27 (bcells (b0)) hr underH rfl (hszB' B0L.out) rfl⟩
    | 19, hi =>
      cases (show some _ = some o from hi)
      have eg : f.tmps.getD 25 undef = .bool false := dep_of (V := (VO3 n1 g b0)) hdep 15 25 (by kernel_rfl) (by kernel_rfl)
      clear hdep hsame hi
      exact ⟨wanted_of 15 rfl eg (by kernel_rfl), shows_run rfl (.agg (ocells (zero32'))) (by simp only [execOp, Act.eval]; go_simp; first | rfl | skip) (Below.refl _ _) rfl⟩
    | 20, hi =>
      cases (show some _ = some o from hi)
      have e28 : f.tmps.getD 28 undef = .agg (ocells (b0)) := dep_of (V := (VO3 n1 g b0)) hdep 18 28 (by kernel_rfl) (by kernel_rfl)
      have e29 : f.tmps.getD 29 undef = .agg (ocells (zero32')) := dep_of (V := (VO3 n1 g b0)) hdep 19 29 (by kernel_rfl) (by kernel_rfl)
      have eg : f.tmps.getD 25 undef = .bool false := dep_of (V := (VO3 n1 g b0)) hdep 15 25 (by kernel_rfl) (by kernel_rfl)
      clear hdep hsame hi
      have q := fun u => hv_eq u (b0) zero32' B0L.out z_l
      rw [show (b0 == zero32') = false from beq_eq_false_iff_ne.2 BNE.out] at q
      simp only [hv_agg] at q
      exact ⟨wanted_of 15 rfl eg (by kernel_rfl), shows_run rfl (.bool false) (by simp only [execOp, Act.eval]; go_simp) (Below.refl _ _) rfl⟩
    | 21, hi =>
      cases (show some _ = some o from hi)
      have e25 : f.tmps.getD 25 undef = .bool false := dep_of (V := (VO3 n1 g b0)) hdep 15 25 (by kernel_rfl) (by kernel_rfl)
      have e30 : f.tmps.getD 30 undef = .bool false := dep_of (V := (VO3 n1 g b0)) hdep 20 30 (by kernel_rfl) (by kernel_rfl)
      clear hdep hsame hi
      exact ⟨wanted_none rfl, shows_run rfl (.bool false) (by simp only [execOp, Act.eval]; go_simp) (Below.refl _ _) rfl⟩
    | n + 22, hi => exact absurd hi (by simp)
  · intro f u hsame hbel hall
    have q10 : f.tmps.getD 10 undef = .slice (some ⟨g, 0, none⟩) 67 67 := hall 0 _ 10 rfl rfl
    have q11 : f.tmps.getD 11 undef = .int .i64 67 := hall 1 _ 11 rfl rfl
    have q12 : f.tmps.getD 12 undef = .bool false := hall 2 _ 12 rfl rfl
    have q13 : f.tmps.getD 13 undef = .bool false := hall 3 _ 13 rfl rfl
    have q14 : f.tmps.getD 14 undef = .slice (some ⟨g, 0, none⟩) 67 67 := hall 4 _ 14 rfl rfl
    have q15 : f.tmps.getD 15 undef = .pointer (some ⟨g, 0, none⟩) := hall 5 _ 15 rfl rfl
    have q16 : f.tmps.getD 16 undef = .agg (ocells (b0)) := hall 6 _ 16 rfl rfl
    have q17 : f.tmps.getD 17 undef = .slice (some ⟨n1, 0, none⟩) 32 32 := hall 7 _ 17 rfl rfl
    have q18 : f.tmps.getD 18 undef = .string (bstr zero32') := hall 8 _ 18 rfl rfl
    have q19 : f.tmps.getD 19 undef = .string ((⟨#[3]⟩ : ByteArray) ++ bstr zero32') := hall 9 _ 19 rfl rfl
    have q20 : f.tmps.getD 20 undef = .string zT := hall 10 _ 20 rfl rfl
    obtain ⟨a21, c21, q21, _⟩ : Strs u (f.tmps.getD 21 undef) [zT] := hall 11 _ 21 rfl rfl
    have q22 : f.tmps.getD 22 undef = .agg (ocells (b0)) := hall 12 _ 22 rfl rfl
    have q23 : f.tmps.getD 23 undef = .bool false := hall 13 _ 23 rfl rfl
    have q24 : f.tmps.getD 24 undef = .bool false := hall 14 _ 24 rfl rfl
    have q25 : f.tmps.getD 25 undef = .bool false := hall 15 _ 25 rfl rfl
    have q26 : f.tmps.getD 26 undef = .slice (some ⟨g, 0, none⟩) 67 67 := hall 16 _ 26 rfl rfl
    have q27 : f.tmps.getD 27 undef = .pointer (some ⟨g, 0, none⟩) := hall 17 _ 27 rfl rfl
    have q28 : f.tmps.getD 28 undef = .agg (ocells (b0)) := hall 18 _ 28 rfl rfl
    have q29 : f.tmps.getD 29 undef = .agg (ocells (zero32')) := hall 19 _ 29 rfl rfl
    have q30 : f.tmps.getD 30 undef = .bool false := hall 20 _ 30 rfl rfl
    have q31 : f.tmps.getD 31 undef = .bool false := hall 21 _ 31 rfl rfl
    obtain rfl := frame_eq hsame [(10, .slice (some ⟨g, 0, none⟩) 67 67), (11, .int .i64 67), (12, .bool false), (13, .bool false), (14, .slice (some ⟨g, 0, none⟩) 67 67), (15, .pointer (some ⟨g, 0, none⟩)), (16, .agg (ocells (b0))), (17, .slice (some ⟨n1, 0, none⟩) 32 32), (18, .string (bstr zero32')), (19, .string ((⟨#[3]⟩ : ByteArray) ++ bstr zero32')), (20, .string zT), (21, .slice a21 [zT].length c21), (22, .agg (ocells (b0))), (23, .bool false), (24, .bool false), (25, .bool false), (26, .slice (some ⟨g, 0, none⟩) 67 67), (27, .pointer (some ⟨g, 0, none⟩)), (28, .agg (ocells (b0))), (29, .agg (ocells (zero32'))), (30, .bool false), (31, .bool false)] (by kernel_rfl) ⟨q10, q11, q12, q13, q14, q15, q16, q17, q18, q19, q20, q21, q22, q23, q24, q25, q26, q27, q28, q29, q30, q31, trivial⟩
    clear hall hsame q10 q11 q12 q13 q14 q15 q16 q17 q18 q19 q20 q21 q22 q23 q24 q25 q26 q27 q28 q29 q30 q31
    simp only [List.foldl, List.setIfInBounds_toArray, List.set_cons_succ, List.set_cons_zero]
    have Y1 := Bx.mk (X1.out.below hbel); have TP := Bx.mk (SP.out.below hbel); have K3 := Bx.mk (KB.out.trans (hbel.mono KB.out.size))
    clear hbel X1 SP KB
    go_wp2_with (guard_target =~ wpList _ _ _ (⟨some 33, _, _, _, _, _⟩ :: _) _ _; refine wpList_load_row rfl 23 (.tmp 1) rfl n1 rfl _ _ _ _ Y1.out.1 underH rfl (hszL z_l) ?_)
    have cr := recover_any A u zero32' z_l _ _ _ _ (TP.out.hss (rowOf_length _ _)) (HT.out.below K3.out)
    rw [rec_67, hv_agg, PBE.out] at cr
    refine cr.mono ?_
    clear cr
    rintro e w4 ⟨rfl, hb⟩
    have Z1 := Bx.mk (Y1.out.below hb); have TQ := Bx.mk (TP.out.below hb); have K4 := Bx.mk (K3.out.trans (hb.mono K3.out.size))
    clear hb Y1 TP K3
    go_upto_region 6 with (guard_target =~ wpList _ _ _ (⟨none, _, _, _, _, _⟩ :: _) _ _; refine wpList_store_row rfl 23 (.tmp 3) (.tmp 36) rfl w4.heap.size (ocells (pb)) rfl rfl _ zeros32 (heap_alloc_new _ _) (hszL PBL.out) (hsoL PBL.out) (ocells_one _) ?_; rw [setRow_alloc_new _ _ _ _ _ rfl])
    have x3 := HashAt.new w4 (pb) PBL.out
    have b3 := er_al (Below.refl w4.heap.size w4) (.cells (ocells (pb)) 23)
    generalize w4.alloc (.cells (ocells (pb)) 23) = w5 at x3 b3 ⊢
    generalize w4.heap.size = n3 at x3 ⊢
    have X1 := Bx.mk (Z1.out.below b3); have SP := Bx.mk (TQ.out.below b3); have KB := Bx.mk (K4.out.trans (b3.mono K4.out.size)); have X3 := Bx.mk x3
    clear b3 x3 Z1 TQ K4
    refine wp_region_own (n := 62) VO6mk (fun _ => none) (VO6 A n1 g) (by kernel_rfl) (by kernel_rfl) rfl ?_ ?_ (VO6_mono A n1 g) ?_ ?_
    · exact fun _ _ => rfl
    · exact fun _ _ _ _ h => by cases h
    · intro oi o hi f u own hsame hsn hfr hdep
      have hx1 := (hsn.keep n1 X1.out.lt rfl).trans X1.out.1
      have hb6 := hsn.below (B := w5.heap.size) (fun _ _ => rfl) (Nat.le_refl _)
      have hu := HT.out.below (KB.out.trans (hb6.mono KB.out.size))
      have hsp := SP.out.below hb6
      match oi, hi with
      | 0, hi =>
        cases (show some _ = some o from hi)
        have e1 : f.tmps.getD 1 undef = .pointer (some ⟨n1, 0, none⟩) := hsame.slot 1 (fun i o h => invB2_not 1 (by kernel_rfl) h)
        clear hdep hsame hi hfr
        exact ⟨wanted_none rfl, showsO_row hsn rfl 23 (.tmp 1) rfl n1 e1 (ocells zero32') hx1 underH rfl (hszL z_l) rfl⟩
      | 1, hi =>
        cases (show some _ = some o from hi)
        have e2 : f.tmps.getD 2 undef = .slice (some ⟨g, 0, none⟩) 67 67 := hsame.slot 2 (fun i o h => invB2_not 2 (by kernel_rfl) h)
        clear hdep hsame hi hfr
        exact ⟨wanted_none rfl, showsO_move hsn rfl _ rfl e2⟩
      | 2, hi =>
        cases (show some _ = some o from hi)
        have e40 : f.tmps.getD 40 undef = .slice (some ⟨g, 0, none⟩) 67 67 := depO (V := (VO6 A n1 g)) hdep 1 40 (by kernel_rfl) (by kernel_rfl)
        clear hdep hsame hi hfr
        exact ⟨wanted_none rfl, showsO_pure hsn rfl (.slice (some ⟨g, 0, none⟩) 66 67) (by simp only [execOp, Act.eval]; go_simp) rfl⟩
      | 3, hi =>
        cases (show some _ = some o from hi)
        have e39 : f.tmps.getD 39 undef = .agg (ocells (zero32')) := depO (V := (VO6 A n1 g)) hdep 0 39 (by kernel_rfl) (by kernel_rfl)
        have e41 : f.tmps.getD 41 undef = .slice (some ⟨g, 0, none⟩) 66 67 := depO (V := (VO6 A n1 g)) hdep 2 41 (by kernel_rfl) (by kernel_rfl)
        clear hdep hsame hi hfr
        have c := recover_any A u zero32' z_l _ _ _ _ ((hsp.hss (rowOf_length _ _)).take 66 (by rw [rowOf_length]; decide)) hu
        rw [rec_66, hv_agg] at c
        exact ⟨wanted_none rfl, showsO_call1 hsn rfl 10 #[.agg (ocells (zero32')), .slice (some ⟨g, 0, none⟩) 66 67] (by simp only [execOp, Act.eval]; go_simp) (c) (fun _ => rfl)⟩
      | 4, hi =>
        cases (show some _ = some o from hi)
        have e42 : f.tmps.getD 42 undef = .tuple #[.agg (ocells zero32'), argErr A] := depO (V := (VO6 A n1 g)) hdep 3 42 (by kernel_rfl) (by kernel_rfl)
        clear hdep hsame hi hfr
        exact ⟨wanted_none rfl, showsO_move hsn rfl _ rfl e42⟩
      | 5, hi =>
        cases (show some _ = some o from hi)
        have e38 : f.tmps.getD 38 undef = .tuple #[.agg (ocells zero32'), argErr A] := depO (V := (VO6 A n1 g)) hdep 4 38 (by kernel_rfl) (by kernel_rfl)
        clear hdep hsame hi hfr
        exact ⟨wanted_none rfl, showsO_pure hsn rfl (.agg (ocells (zero32'))) (by simp only [execOp, Act.eval]; go_simp) rfl⟩
      | 6, hi =>
        cases (show some _ = some o from hi)
        have e38 : f.tmps.getD 38 undef = .tuple #[.agg (ocells zero32'), argErr A] := depO (V := (VO6 A n1 g)) hdep 4 38 (by kernel_rfl) (by kernel_rfl)
        clear hdep hsame hi hfr
        exact ⟨wanted_none rfl, showsO_pure hsn rfl (argErr A) (by simp only [execOp, Act.eval]; go_simp) rfl⟩
      | 7, hi =>
        cases (show some _ = some o from hi)
        clear hdep hsame hi
        exact ⟨wanted_none rfl, showsO_alloc hsn hfr rfl zeros32 23 8 rfl (by simp only [execOp, Act.eval]; go_simp; rfl) (fun h => h)⟩
      | 8, hi =>
        cases (show some _ = some o from hi)
        have e5 : AllocV own u (f.tmps.getD 5 undef) 8 23 32 := depO (V := (VO6 A n1 g)) hdep 7 5 (by kernel_rfl) (by kernel_rfl)
        have e43 : f.tmps.getD 43 undef = .agg (ocells (zero32')) := depO (V := (VO6 A n1 g)) hdep 5 43 (by kernel_rfl) (by kernel_rfl)
        clear hdep hsame hi hfr
        exact ⟨wanted_none rfl, showsO_store_alloc hsn rfl 23 (.tmp 5) (.tmp 43) rfl e5 (ocells zero32') e43 (hszL z_l) rfl (ocells_one _) (fun _ h => h)⟩
      | 9, hi =>
        cases (show some _ = some o from hi)
        have e44 : f.tmps.getD 44 undef = argErr A := depO (V := (VO6 A n1 g)) hdep 6 44 (by kernel_rfl) (by kernel_rfl)
        clear hdep hsame hi hfr
        exact ⟨wanted_none rfl, showsO_assign hsn rfl _ rfl e44⟩
      | n + 10, hi => exact absurd hi (by simp)
    · intro f u own hsame hsn hall
      have hb6 := hsn.below (B := w5.heap.size) (fun _ _ => rfl) (Nat.le_refl _)
      have q39 : f.tmps.getD 39 undef = .agg (ocells (zero32')) := finO (V := (VO6 A n1 g)) hall 0 39 rfl
      have q40 : f.tmps.getD 40 undef = .slice (some ⟨g, 0, none⟩) 67 67 := finO (V := (VO6 A n1 g)) hall 1 40 rfl
      have q41 : f.tmps.getD 41 undef = .slice (some ⟨g, 0, none⟩) 66 67 := finO (V := (VO6 A n1 g)) hall 2 41 rfl
      have q42 : f.tmps.getD 42 undef = .tuple #[.agg (ocells zero32'), argErr A] := finO (V := (VO6 A n1 g)) hall 3 42 rfl
      have q38 : f.tmps.getD 38 undef = .tuple #[.agg (ocells zero32'), argErr A] := finO (V := (VO6 A n1 g)) hall 4 38 rfl
      have q43 : f.tmps.getD 43 undef = .agg (ocells (zero32')) := finO (V := (VO6 A n1 g)) hall 5 43 rfl
      have q44 : f.tmps.getD 44 undef = argErr A := finO (V := (VO6 A n1 g)) hall 6 44 rfl
      obtain ⟨g5, q5, o5, m5⟩ := AllocV.stored (finO (V := (VO6 A n1 g)) hall 7 5 rfl) (finN (V := (VO6 A n1 g)) hall 8 rfl)
      have q6 : f.tmps.getD 6 undef = argErr A := finO (V := (VO6 A n1 g)) hall 9 6 rfl
      obtain rfl := frame_eq hsame [(39, .agg (ocells (zero32'))), (40, .slice (some ⟨g, 0, none⟩) 67 67), (41, .slice (some ⟨g, 0, none⟩) 66 67), (42, .tuple #[.agg (ocells zero32'), argErr A]), (38, .tuple #[.agg (ocells zero32'), argErr A]), (43, .agg (ocells (zero32'))), (44, argErr A), (5, .pointer (some ⟨g5, 0, none⟩)), (6, argErr A)] (by kernel_rfl) ⟨q39, q40, q41, q42, q38, q43, q44, q5, q6, trivial⟩
      clear hall hsame q39 q40 q41 q42 q38 q43 q44 q5 q6
      simp only [List.foldl, List.setIfInBounds_toArray, List.set_cons_succ, List.set_cons_zero]
      have Y1 := Bx.mk (X1.out.below hb6); have Y3 := Bx.mk (X3.out.below hb6); have K3 := Bx.mk (KB.out.trans (hb6.mono KB.out.size))
      clear hb6 X1 X3 SP KB hsn o5 m5
      have X1 := Y1; have X3 := Y3; have KB := K3
      clear Y1 Y3 K3
      go_upto_region 7 with (fail)
      refine wp_region_inv (n := 62) (VO7 A n1 n3 g pb) (by kernel_rfl) (by kernel_rfl) rfl (VO7_mono A n1 n3 g pb) ?_ ?_
      · intro oi o hi f u hsame hbel hdep
        have hu := HT.out.below (KB.out.trans (hbel.mono KB.out.size))
        match oi, hi with
        | 0, hi =>
          cases (show some _ = some o from hi)
          have e4 : f.tmps.getD 4 undef = .nilIface := hsame.slot 4 (fun _ _ h => invB_not (n := 62) (by kernel_rfl) 4 (by kernel_rfl) h)
          clear hdep hsame hi
          exact ⟨wanted_none rfl, shows_move rfl _ rfl e4⟩
        | 1, hi =>
          cases (show some _ = some o from hi)
          have e45 : f.tmps.getD 45 undef = .nilIface := dep_of (V := (VO7 A n1 n3 g pb)) hdep 0 45 (by kernel_rfl) (by kernel_rfl)
          clear hdep hsame hi
          exact ⟨wanted_none rfl, shows_run rfl (.bool true) (by simp only [execOp, Act.eval]; go_simp) (Below.refl _ _) rfl⟩
        | 2, hi =>
          cases (show some _ = some o from hi)
          have e46 : f.tmps.getD 46 undef = .bool true := dep_of (V := (VO7 A n1 n3 g pb)) hdep 1 46 (by kernel_rfl) (by kernel_rfl)
          clear hdep hsame hi
          exact ⟨wanted_none rfl, shows_move rfl _ rfl e46⟩
        | 3, hi =>
          cases (show some _ = some o from hi)
          have e3 : f.tmps.getD 3 undef = .pointer (some ⟨n3, 0, none⟩) := hsame.slot 3 (fun _ _ h => invB_not (n := 62) (by kernel_rfl) 3 (by kernel_rfl) h)
          have eg : f.tmps.getD 47 undef = .bool true := dep_of (V := (VO7 A n1 n3 g pb)) hdep 2 47 (by kernel_rfl) (by kernel_rfl)
          clear hdep hsame hi
          exact ⟨wanted_of 2 rfl eg (by kernel_rfl), shows_row rfl 23 (.tmp 3) rfl n3 e3 (ocells (pb)) (X3.out.below hbel).1 underH rfl (hszL PBL.out) rfl⟩
        | 4, hi =>
          cases (show some _ = some o from hi)
          have e1 : f.tmps.getD 1 undef = .pointer (some ⟨n1, 0, none⟩) := hsame.slot 1 (fun _ _ h => invB_not (n := 62) (by kernel_rfl) 1 (by kernel_rfl) h)
          have eg : f.tmps.getD 47 undef = .bool true := dep_of (V := (VO7 A n1 n3 g pb)) hdep 2 47 (by kernel_rfl) (by kernel_rfl)
          clear hdep hsame hi
          exact ⟨wanted_of 2 rfl eg (by kernel_rfl), shows_row rfl 23 (.tmp 1) rfl n1 e1 (ocells zero32') (X1.out.below hbel).1 underH rfl (hszL z_l) rfl⟩
        | 5, hi =>
          cases (show some _ = some o from hi)
          have e49 : f.tmps.getD 49 undef = .agg (ocells (zero32')) := dep_of (V := (VO7 A n1 n3 g pb)) hdep 4 49 (by kernel_rfl) (by kernel_rfl)
          have eg : f.tmps.getD 47 undef = .bool true := dep_of (V := (VO7 A n1 n3 g pb)) hdep 2 47 (by kernel_rfl) (by kernel_rfl)
          clear hdep hsame hi
          have c := public_any u zero32' z_l hu.tab
          rw [hv_agg, hv_agg, PBE.out] at c
          exact ⟨wanted_of 2 rfl eg (by kernel_rfl), shows_call rfl 15 #[.agg (ocells (zero32'))] (by simp only [execOp, Act.eval]; go_simp) (c) (fun _ => rfl)⟩
        | 6, hi =>
          cases (show some _ = some o from hi)
          have e48 : f.tmps.getD 48 undef = .agg (ocells (pb)) := dep_of (V := (VO7 A n1 n3 g pb)) hdep 3 48 (by kernel_rfl) (by kernel_rfl)
          have e50 : f.tmps.getD 50 undef = .agg (ocells (pb)) := dep_of (V := (VO7 A n1 n3 g pb)) hdep 5 50 (by kernel_rfl) (by kernel_rfl)
          have eg : f.tmps.getD 47 undef = .bool true := dep_of (V := (VO7 A n1 n3 g pb)) hdep 2 47 (by kernel_rfl) (by kernel_rfl)
          clear hdep hsame hi
          have q := fun u => hv_eq u (pb) (pb) PBL.out PBL.out
          simp only [beq_self_eq_true, hv_agg] at q
          exact ⟨wanted_of 2 rfl eg (by kernel_rfl), shows_run rfl (.bool true) (by simp only [execOp, Act.eval]; go_simp) (Below.refl _ _) rfl⟩
        | 7, hi =>
          cases (show some _ = some o from hi)
          have e47 : f.tmps.getD 47 undef = .bool true := dep_of (V := (VO7 A n1 n3 g pb)) hdep 2 47 (by kernel_rfl) (by kernel_rfl)
          have e51 : f.tmps.getD 51 undef = .bool true := dep_of (V := (VO7 A n1 n3 g pb)) hdep 6 51 (by kernel_rfl) (by kernel_rfl)
          clear hdep hsame hi
          exact ⟨wanted_none rfl, shows_run rfl (.bool true) (by simp only [execOp, Act.eval]; go_simp) (Below.refl _ _) rfl⟩
        | 8, hi =>
          cases (show some _ = some o from hi)
          have e52 : f.tmps.getD 52 undef = .bool true := dep_of (V := (VO7 A n1 n3 g pb)) hdep 7 52 (by kernel_rfl) (by kernel_rfl)
          clear hdep hsame hi
          exact ⟨wanted_none rfl, shows_move rfl _ rfl e52⟩
        | 9, hi =>
          cases (show some _ = some o from hi)
          have e3 : f.tmps.getD 3 undef = .pointer (some ⟨n3, 0, none⟩) := hsame.slot 3 (fun _ _ h => invB_not (n := 62) (by kernel_rfl) 3 (by kernel_rfl) h)
          have eg : f.tmps.getD 53 undef = .bool true := dep_of (V := (VO7 A n1 n3 g pb)) hdep 8 53 (by kernel_rfl) (by kernel_rfl)
          clear hdep hsame hi
          exact ⟨wanted_of 8 rfl eg (by kernel_rfl), shows_row rfl 23 (.tmp 3) rfl n3 e3 (ocells (pb)) (X3.out.below hbel).1 underH rfl (hszL PBL.out) rfl⟩
        | 10, hi =>
          cases (show some _ = some o from hi)
          have e1 : f.tmps.getD 1 undef = .pointer (some ⟨n1, 0, none⟩) := hsame.slot 1 (fun _ _ h => invB_not (n := 62) (by kernel_rfl) 1 (by kernel_rfl) h)
          have eg : f.tmps.getD 53 undef = .bool true := dep_of (V := (VO7 A n1 n3 g pb)) hdep 8 53 (by kernel_rfl) (by kernel_rfl)
          clear hdep hsame hi
          exact ⟨wanted_of 8 rfl eg (by kernel_rfl), shows_row rfl 23 (.tmp 1) rfl n1 e1 (ocells zero32') (X1.out.below hbel).1 underH rfl (hszL z_l) rfl⟩
        | 11, hi =>
          cases (show some _ = some o from hi)
          have e54 : f.tmps.getD 54 undef = .agg (ocells (pb)) := dep_of (V := (VO7 A n1 n3 g pb)) hdep 9 54 (by kernel_rfl) (by kernel_rfl)
          have e55 : f.tmps.getD 55 undef = .agg (ocells (zero32')) := dep_of (V := (VO7 A n1 n3 g pb)) hdep 10 55 (by kernel_rfl) (by kernel_rfl)
          have eg : f.tmps.getD 53 undef = .bool true := dep_of (V := (VO7 A n1 n3 g pb)) hdep 8 53 (by kernel_rfl) (by kernel_rfl)
          clear hdep hsame hi
          have q := fun u => hv_neq u (pb) zero32' PBL.out z_l
          rw [show (pb == zero32') = false from beq_eq_false_iff_ne.2 PNE.out] at q
          simp only [hv_agg, Bool.not_false] at q
          exact ⟨wanted_of 8 rfl eg (by kernel_rfl), shows_run rfl (.bool true) (by simp only [execOp, Act.eval]; go_simp) (Below.refl _ _) rfl⟩
        | 12, hi =>
          cases (show some _ = some o from hi)
          have e53 : f.tmps.getD 53 undef = .bool true := dep_of (V := (VO7 A n1 n3 g pb)) hdep 8 53 (by kernel_rfl) (by kernel_rfl)
          have e56 : f.tmps.getD 56 undef = .bool true := dep_of (V := (VO7 A n1 n3 g pb)) hdep 11 56 (by kernel_rfl) (by kernel_rfl)
          clear hdep hsame hi
          exact ⟨wanted_none rfl, shows_run rfl (.bool true) (by simp only [execOp, Act.eval]; go_simp) (Below.refl _ _) rfl⟩
        | 13, hi =>
          cases (show some _ = some o from hi)
          have e57 : f.tmps.getD 57 undef = .bool true := dep_of (V := (VO7 A n1 n3 g pb)) hdep 12 57 (by kernel_rfl) (by kernel_rfl)
          clear hdep hsame hi
          exact ⟨wanted_none rfl, shows_move rfl _ rfl e57⟩
        | 14, hi =>
          cases (show some _ = some o from hi)
          have e6 : f.tmps.getD 6 undef = argErr A := hsame.slot 6 (fun _ _ h => invB_not (n := 62) (by kernel_rfl) 6 (by kernel_rfl) h)
          have eg : f.tmps.getD 58 undef = .bool true := dep_of (V := (VO7 A n1 n3 g pb)) hdep 13 58 (by kernel_rfl) (by kernel_rfl)
          clear hdep hsame hi
          exact ⟨wanted_of 13 rfl eg (by kernel_rfl), shows_move rfl _ rfl e6⟩
        | 15, hi =>
          cases (show some _ = some o from hi)
          have e59 : f.tmps.getD 59 undef = argErr A := dep_of (V := (VO7 A n1 n3 g pb)) hdep 14 59 (by kernel_rfl) (by kernel_rfl)
          have eg : f.tmps.getD 58 undef = .bool true := dep_of (V := (VO7 A n1 n3 g pb)) hdep 13 58 (by kernel_rfl) (by kernel_rfl)
          clear hdep hsame hi
          have c := isE_any hu.err (ErrV.plain 1 (by decide)) 2
          exact ⟨wanted_of 13 rfl eg (by kernel_rfl), shows_call rfl 18 #[argErr A, .int .i64 2] (by simp only [execOp, Act.eval]; go_simp) (c) (fun _ => rfl)⟩
        | 16, hi =>
          cases (show some _ = some o from hi)
          have e58 : f.tmps.getD 58 undef = .bool true := dep_of (V := (VO7 A n1 n3 g pb)) hdep 13 58 (by kernel_rfl) (by kernel_rfl)
          have e60 : f.tmps.getD 60 undef = .bool true := dep_of (V := (VO7 A n1 n3 g pb)) hdep 15 60 (by kernel_rfl) (by kernel_rfl)
          clear hdep hsame hi
          exact ⟨wanted_none rfl, shows_run rfl (.bool true) (by simp only [execOp, Act.eval]; go_simp) (Below.refl _ _) rfl⟩
        | 17, hi =>
          cases (show some _ = some o from hi)
          have e61 : f.tmps.getD 61 undef = .bool true := dep_of (V := (VO7 A n1 n3 g pb)) hdep 16 61 (by kernel_rfl) (by kernel_rfl)
          clear hdep hsame hi
          exact ⟨wanted_none rfl, shows_assign rfl _ rfl e61⟩
        | n + 18, hi => exact absurd hi (by simp)
      · intro f u hsame hbel hall
        have e0 : f.tmps.getD 0 undef = .bool true := hall 17 _ 0 rfl rfl
        have hd : f.defers = [] := hsame.defers
        refine ‹∀ (a : Act) (w : World), Code.wp _ Code.ret _ a w → _› f u ?_
        exact wp_ret (bodyPost_ret (results_tmp rfl _ _ _) hd ⟨by rw [e0], KB.out.trans (hbel.mono KB.out.size)⟩)
end Go.Proofs.YtohifpomdanmkaaDoor
