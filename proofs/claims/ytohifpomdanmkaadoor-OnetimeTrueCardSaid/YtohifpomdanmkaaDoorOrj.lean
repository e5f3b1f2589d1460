/- cartularylaw22.OnetimeTrue walked. -/
import Derived.Test.YtohifpomdanmkaaDoorOri
namespace Go.Proofs.YtohifpomdanmkaaDoor
set_option maxRecDepth 100000
open Go.RowKit
def VOT (_A : Nat → Addr) (_N _n6 g : Nat) (s pb : List UInt8) (sl : Nat) (v : Value) (_w : World) : Prop :=
  match sl with
  | 17 => v = .bool true
  | 18 => v = .bool true
  | 19 => v = .nilIface
  | 20 => v = .bool true
  | 21 => v = .bool true
  | 22 => v = .bool true
  | 23 => v = .slice (some ⟨g, 0, none⟩) 67 67
  | 24 => v = .int .i64 67
  | 25 => v = .bool true
  | 26 => v = .bool true
  | 27 => v = .bool true
  | 28 => v = .agg (ocells (pb))
  | 29 => v = .agg (ocells (s))
  | 30 => v = .agg (ocells (pb))
  | 31 => v = .bool true
  | 32 => v = .bool true
  | 4 => v = .bool true
  | _ => True
theorem VOT_mono (A : Nat → Addr) (N n6 g : Nat) (s pb : List UInt8) (sl : Nat) (v : Value) (w w' : World) (h : VOT A N n6 g s pb sl v w) (_k : Below w.heap.size w w') : VOT A N n6 g s pb sl v w' := by
  unfold VOT at h ⊢
  split at h
  · exact h
  · exact h
  · exact h
  · exact h
  · exact h
  · exact h
  · exact h
  · exact h
  · exact h
  · exact h
  · exact h
  · exact h
  · exact h
  · exact h
  · exact h
  · exact h
  · exact h
  · trivial

set_option maxHeartbeats 6400000 in
theorem true_any (A : Nat → Addr) (w : World) (s m : List UInt8) (hs : s.length = 32) (hm : m.length = 32) (hT : Hs A w) :
    Calls Tryd.prog 4 #[hv s, hv m] w fun e w' => e = .returned (.bool true) ∧ Below w.heap.size w w' := by
  have x0 := (HashAt.new w s hs).below (er_al (Below.refl _ _) (.cells (ocells m) 23))
  have x1 := HashAt.new (w.alloc (.cells (ocells s) 23)) m hm
  rw [show (w.alloc (.cells (ocells s) 23)).heap.size = w.heap.size + 1 by simp] at x1
  have kb : Below w.heap.size w ((w.alloc (.cells (ocells s) 23)).alloc (.cells (ocells m) 23)) := er_al (er_al (Below.refl _ _) _) _
  obtain ⟨pb, hpb⟩ : ∃ b, publicB s = b := ⟨_, rfl⟩
  have PBL := Bx.mk (show pb.length = 32 by rw [← hpb]; exact pub_len _)
  have PBE := Bx.mk hpb
  have SL := Bx.mk hs; have ML := Bx.mk hm; have HT := Bx.mk hT
  clear hs hm hT hpb
  unfold hv
  go_enter Tryd.func4, Tryd.ntmps4
  go_upto_region 1 with (fail)
  change Code.wp _ _ _ _ ((w.alloc (.cells (ocells s) 23)).alloc (.cells (ocells m) 23))
  generalize (w.alloc (.cells (ocells s) 23)).alloc (.cells (ocells m) 23) = W at x0 x1 kb ⊢
  obtain ⟨N, hN⟩ : ∃ N, N = w.heap.size := ⟨_, rfl⟩
  rw [← hN] at x0 x1 ⊢
  have X0 := Bx.mk x0; have X1 := Bx.mk x1; have K0 := Bx.mk kb
  clear x0 x1 kb hN
  go_wp2_with (first
    | (guard_target =~ wpList _ _ _ (⟨some 8, _, _, _, _, _⟩ :: _) _ _; refine wpList_load_row rfl 23 (.tmp 2) rfl N rfl _ _ _ _ X0.out.1 underH rfl (hszL SL.out) ?_)
    | (guard_target =~ wpList _ _ _ (⟨some 9, _, _, _, _, _⟩ :: _) _ _; refine wpList_load_row rfl 23 (.tmp 3) rfl (N + 1) rfl _ _ _ _ X1.out.1 underH rfl (hszL ML.out) ?_))
  have cs := sign_any W s m SL.out ML.out (HT.out.below K0.out).tab
  rw [hv_agg, hv_agg] at cs
  refine cs.mono ?_
  clear cs
  rintro e w1 ⟨g, rfl, _, hsp, hb⟩
  have Y0 := Bx.mk (X0.out.below hb); have Y1 := Bx.mk (X1.out.below hb); have SP := Bx.mk hsp; have K1 := Bx.mk (K0.out.trans (hb.mono K0.out.size))
  clear hb hsp X0 X1 K0
  go_wp2_with (guard_target =~ wpList _ _ _ (⟨some 12, _, _, _, _, _⟩ :: _) _ _; refine wpList_load_row rfl 23 (.tmp 3) rfl (N + 1) rfl _ _ _ _ Y1.out.1 underH rfl (hszL ML.out) ?_)
  have cr := recover_any A w1 m ML.out _ _ _ _ (SP.out.hss (rowOf_length _ _)) (HT.out.below K1.out)
  rw [rec_67, hv_agg, PBE.out] at cr
  refine cr.mono ?_
  clear cr
  rintro e w2 ⟨rfl, hb⟩
  have Z0 := Bx.mk (Y0.out.below hb); have K2 := Bx.mk (K1.out.trans (hb.mono K1.out.size))
  clear hb Y0 Y1 K1 SP
  go_upto_region 3 with (guard_target =~ wpList _ _ _ (⟨none, _, _, _, _, _⟩ :: _) _ _; refine wpList_store_row rfl 23 (.tmp 6) (.tmp 15) rfl w2.heap.size (ocells pb) rfl rfl _ zeros32 (heap_alloc_new _ _) (hszL PBL.out) (hsoL PBL.out) (ocells_one _) ?_; rw [setRow_alloc_new _ _ _ _ _ rfl])
  have x6 := HashAt.new w2 pb PBL.out
  have b6 := er_al (Below.refl w2.heap.size w2) (.cells (ocells pb) 23)
  generalize w2.alloc (.cells (ocells pb) 23) = w3 at x6 b6 ⊢
  generalize w2.heap.size = n6 at x6 ⊢
  have X0 := Bx.mk (Z0.out.below b6); have X6 := Bx.mk x6; have KB := Bx.mk (K2.out.trans (b6.mono K2.out.size))
  clear b6 x6 Z0 K2
  refine wp_region_inv (n := 33) (VOT A N n6 g s pb) (by kernel_rfl) (by kernel_rfl) rfl (VOT_mono A N n6 g s pb) ?_ ?_
  · intro oi o hi f u hsame hbel hdep
    have hu := HT.out.below (KB.out.trans (hbel.mono KB.out.size))
    match oi, hi with
    | 0, hi =>
      cases (show some _ = some o from hi)
      clear hdep hsame hi
      have c := alive_any A u hu
      exact ⟨wanted_none rfl, shows_call rfl 14 #[] (by simp only [execOp, Act.eval]; go_simp) (c) (fun _ => rfl)⟩
    | 1, hi =>
      cases (show some _ = some o from hi)
      have e17 : f.tmps.getD 17 undef = .bool true := dep_of (V := (VOT A N n6 g s pb)) hdep 0 17 (by kernel_rfl) (by kernel_rfl)
      clear hdep hsame hi
      exact ⟨wanted_none rfl, shows_move rfl _ rfl e17⟩
    | 2, hi =>
      cases (show some _ = some o from hi)
      have e7 : f.tmps.getD 7 undef = .nilIface := hsame.slot 7 (fun _ _ h => invB_not (n := 33) (by kernel_rfl) 7 (by kernel_rfl) h)
      have eg : f.tmps.getD 18 undef = .bool true := dep_of (V := (VOT A N n6 g s pb)) hdep 1 18 (by kernel_rfl) (by kernel_rfl)
      clear hdep hsame hi
      exact ⟨wanted_of 1 rfl eg (by kernel_rfl), shows_move rfl _ rfl e7⟩
    | 3, hi =>
      cases (show some _ = some o from hi)
      have e19 : f.tmps.getD 19 undef = .nilIface := dep_of (V := (VOT A N n6 g s pb)) hdep 2 19 (by kernel_rfl) (by kernel_rfl)
      have eg : f.tmps.getD 18 undef = .bool true := dep_of (V := (VOT A N n6 g s pb)) hdep 1 18 (by kernel_rfl) (by kernel_rfl)
      clear hdep hsame hi
      exact ⟨wanted_of 1 rfl eg (by kernel_rfl), shows_run rfl (.bool true) (by simp only [execOp, Act.eval]; go_simp) (Below.refl _ _) rfl⟩
    | 4, hi =>
      cases (show some _ = some o from hi)
      have e18 : f.tmps.getD 18 undef = .bool true := dep_of (V := (VOT A N n6 g s pb)) hdep 1 18 (by kernel_rfl) (by kernel_rfl)
      have e20 : f.tmps.getD 20 undef = .bool true := dep_of (V := (VOT A N n6 g s pb)) hdep 3 20 (by kernel_rfl) (by kernel_rfl)
      clear hdep hsame hi
      exact ⟨wanted_none rfl, shows_run rfl (.bool true) (by simp only [execOp, Act.eval]; go_simp) (Below.refl _ _) rfl⟩
    | 5, hi =>
      cases (show some _ = some o from hi)
      have e21 : f.tmps.getD 21 undef = .bool true := dep_of (V := (VOT A N n6 g s pb)) hdep 4 21 (by kernel_rfl) (by kernel_rfl)
      clear hdep hsame hi
      exact ⟨wanted_none rfl, shows_move rfl _ rfl e21⟩
    | 6, hi =>
      cases (show some _ = some o from hi)
      have e5 : f.tmps.getD 5 undef = .slice (some ⟨g, 0, none⟩) 67 67 := hsame.slot 5 (fun _ _ h => invB_not (n := 33) (by kernel_rfl) 5 (by kernel_rfl) h)
      have eg : f.tmps.getD 22 undef = .bool true := dep_of (V := (VOT A N n6 g s pb)) hdep 5 22 (by kernel_rfl) (by kernel_rfl)
      clear hdep hsame hi
      exact ⟨wanted_of 5 rfl eg (by kernel_rfl), shows_move rfl _ rfl e5⟩
    | 7, hi =>
      cases (show some _ = some o from hi)
      have e23 : f.tmps.getD 23 undef = .slice (some ⟨g, 0, none⟩) 67 67 := dep_of (V := (VOT A N n6 g s pb)) hdep 6 23 (by kernel_rfl) (by kernel_rfl)
      have eg : f.tmps.getD 22 undef = .bool true := dep_of (V := (VOT A N n6 g s pb)) hdep 5 22 (by kernel_rfl) (by kernel_rfl)
      clear hdep hsame hi
      exact ⟨wanted_of 5 rfl eg (by kernel_rfl), shows_run rfl (.int .i64 67) (by simp only [execOp, Act.eval]; go_simp) (Below.refl _ _) rfl⟩
    | 8, hi =>
      cases (show some _ = some o from hi)
      have e24 : f.tmps.getD 24 undef = .int .i64 67 := dep_of (V := (VOT A N n6 g s pb)) hdep 7 24 (by kernel_rfl) (by kernel_rfl)
      have eg : f.tmps.getD 22 undef = .bool true := dep_of (V := (VOT A N n6 g s pb)) hdep 5 22 (by kernel_rfl) (by kernel_rfl)
      clear hdep hsame hi
      exact ⟨wanted_of 5 rfl eg (by kernel_rfl), shows_run rfl (.bool true) (by simp only [execOp, Act.eval]; go_simp) (Below.refl _ _) rfl⟩
    | 9, hi =>
      cases (show some _ = some o from hi)
      have e22 : f.tmps.getD 22 undef = .bool true := dep_of (V := (VOT A N n6 g s pb)) hdep 5 22 (by kernel_rfl) (by kernel_rfl)
      have e25 : f.tmps.getD 25 undef = .bool true := dep_of (V := (VOT A N n6 g s pb)) hdep 8 25 (by kernel_rfl) (by kernel_rfl)
      clear hdep hsame hi
      exact ⟨wanted_none rfl, shows_run rfl (.bool true) (by simp only [execOp, Act.eval]; go_simp) (Below.refl _ _) rfl⟩
    | 10, hi =>
      cases (show some _ = some o from hi)
      have e26 : f.tmps.getD 26 undef = .bool true := dep_of (V := (VOT A N n6 g s pb)) hdep 9 26 (by kernel_rfl) (by kernel_rfl)
      clear hdep hsame hi
      exact ⟨wanted_none rfl, shows_move rfl _ rfl e26⟩
    | 11, hi =>
      cases (show some _ = some o from hi)
      have e6 : f.tmps.getD 6 undef = .pointer (some ⟨n6, 0, none⟩) := hsame.slot 6 (fun _ _ h => invB_not (n := 33) (by kernel_rfl) 6 (by kernel_rfl) h)
      have eg : f.tmps.getD 27 undef = .bool true := dep_of (V := (VOT A N n6 g s pb)) hdep 10 27 (by kernel_rfl) (by kernel_rfl)
      clear hdep hsame hi
      exact ⟨wanted_of 10 rfl eg (by kernel_rfl), shows_row rfl 23 (.tmp 6) rfl n6 e6 (ocells (pb)) (X6.out.below hbel).1 underH rfl (hszL PBL.out) rfl⟩
    | 12, hi =>
      cases (show some _ = some o from hi)
      have e2 : f.tmps.getD 2 undef = .pointer (some ⟨N, 0, none⟩) := hsame.slot 2 (fun _ _ h => invB_not (n := 33) (by kernel_rfl) 2 (by kernel_rfl) h)
      have eg : f.tmps.getD 27 undef = .bool true := dep_of (V := (VOT A N n6 g s pb)) hdep 10 27 (by kernel_rfl) (by kernel_rfl)
      clear hdep hsame hi
      exact ⟨wanted_of 10 rfl eg (by kernel_rfl), shows_row rfl 23 (.tmp 2) rfl N e2 (ocells (s)) (X0.out.below hbel).1 underH rfl (hszL SL.out) rfl⟩
    | 13, hi =>
      cases (show some _ = some o from hi)
      have e29 : f.tmps.getD 29 undef = .agg (ocells (s)) := dep_of (V := (VOT A N n6 g s pb)) hdep 12 29 (by kernel_rfl) (by kernel_rfl)
      have eg : f.tmps.getD 27 undef = .bool true := dep_of (V := (VOT A N n6 g s pb)) hdep 10 27 (by kernel_rfl) (by kernel_rfl)
      clear hdep hsame hi
      have c := public_any u s SL.out hu.tab
      rw [hv_agg, hv_agg, PBE.out] at c
      exact ⟨wanted_of 10 rfl eg (by kernel_rfl), shows_call rfl 15 #[.agg (ocells (s))] (by simp only [execOp, Act.eval]; go_simp) (c) (fun _ => rfl)⟩
    | 14, hi =>
      cases (show some _ = some o from hi)
      have e28 : f.tmps.getD 28 undef = .agg (ocells (pb)) := dep_of (V := (VOT A N n6 g s pb)) hdep 11 28 (by kernel_rfl) (by kernel_rfl)
      have e30 : f.tmps.getD 30 undef = .agg (ocells (pb)) := dep_of (V := (VOT A N n6 g s pb)) hdep 13 30 (by kernel_rfl) (by kernel_rfl)
      have eg : f.tmps.getD 27 undef = .bool true := dep_of (V := (VOT A N n6 g s pb)) hdep 10 27 (by kernel_rfl) (by kernel_rfl)
      clear hdep hsame hi
      have q := fun u => hv_eq u (pb) (pb) PBL.out PBL.out
      simp only [beq_self_eq_true, hv_agg] at q
      exact ⟨wanted_of 10 rfl eg (by kernel_rfl), shows_run rfl (.bool true) (by simp only [execOp, Act.eval]; go_simp) (Below.refl _ _) rfl⟩
    | 15, hi =>
      cases (show some _ = some o from hi)
      have e27 : f.tmps.getD 27 undef = .bool true := dep_of (V := (VOT A N n6 g s pb)) hdep 10 27 (by kernel_rfl) (by kernel_rfl)
      have e31 : f.tmps.getD 31 undef = .bool true := dep_of (V := (VOT A N n6 g s pb)) hdep 14 31 (by kernel_rfl) (by kernel_rfl)
      clear hdep hsame hi
      exact ⟨wanted_none rfl, shows_run rfl (.bool true) (by simp only [execOp, Act.eval]; go_simp) (Below.refl _ _) rfl⟩
    | 16, hi =>
      cases (show some _ = some o from hi)
      have e32 : f.tmps.getD 32 undef = .bool true := dep_of (V := (VOT A N n6 g s pb)) hdep 15 32 (by kernel_rfl) (by kernel_rfl)
      clear hdep hsame hi
      exact ⟨wanted_none rfl, shows_assign rfl _ rfl e32⟩
    | n + 17, hi => exact absurd hi (by simp)
  · intro f u hsame hbel hall
    have e0 : f.tmps.getD 4 undef = .bool true := hall 16 _ 4 rfl rfl
    have hd : f.defers = [] := hsame.defers
    refine ‹∀ (a : Act) (w : World), Code.wp _ Code.ret _ a w → _› f u ?_
    exact wp_ret (bodyPost_ret (results_tmp rfl _ _ _) hd ⟨by rw [e0], KB.out.trans (hbel.mono KB.out.size)⟩)
end Go.Proofs.YtohifpomdanmkaaDoor
