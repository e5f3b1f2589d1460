/- (*cartularylaw04.World).looks. -/
import Derived.Test.YtfoknhogclfhhaaDoorPlA
namespace Go.Proofs.YtfoknhogclfhhaaDoor
set_option maxRecDepth 100000
open Go.RowKit
def VPl (G K pk N : Nat) (x : ByteArray) (h : List UInt8) (sl : Nat) (v : Value) (_w : World) : Prop :=
  match sl with
  | 5 => v = .pointer (some ⟨G, 0, none⟩)
  | 6 => v = .int .i64 (K : Int)
  | 7 => v = .pointer (some ⟨G, 0, none⟩)
  | 8 => v = .pointer (some ⟨G, 0, none⟩)
  | 9 => v = .pointer (some ⟨G, K, none⟩)
  | 10 => v = .pointer (some ⟨pk, 0, none⟩)
  | 11 => v = .agg (ocells (h))
  | 12 => v = .pointer (some ⟨G, 0, none⟩)
  | 13 => v = .int .i64 (K : Int)
  | 14 => v = .pointer (some ⟨G, 0, none⟩)
  | 15 => v = .pointer (some ⟨G, 3, none⟩)
  | 16 => v = .pointer (some ⟨G, 3 + K, none⟩)
  | 17 => v = .string x
  | 18 => v = .agg (ocells (h))
  | 19 => v = .bool true
  | 20 => v = .bool true
  | 21 => v = .pointer (some ⟨G, 0, none⟩)
  | 22 => v = .int .i64 (K : Int)
  | 23 => v = .pointer (some ⟨G, 0, none⟩)
  | 24 => v = .pointer (some ⟨G, 0, none⟩)
  | 25 => v = .pointer (some ⟨G, K, none⟩)
  | 26 => v = .pointer (some ⟨pk, 0, none⟩)
  | 27 => v = .int .u64 (N : Int)
  | 28 => v = .pointer (some ⟨G, 0, none⟩)
  | 29 => v = .int .i64 (K : Int)
  | 30 => v = .pointer (some ⟨G, 0, none⟩)
  | 31 => v = .pointer (some ⟨G, 3, none⟩)
  | 32 => v = .pointer (some ⟨G, 3 + K, none⟩)
  | 33 => v = .string x
  | 34 => v = .int .i64 (N : Int)
  | 35 => v = .int .u64 (N : Int)
  | 36 => v = .bool true
  | 37 => v = .bool true
  | 4 => v = .bool true
  | _ => True
theorem VPl_mono (G K pk N : Nat) (x : ByteArray) (h : List UInt8) (sl : Nat) (v : Value) (w w' : World) (hh : VPl G K pk N x h sl v w) (_k : Below w.heap.size w w') : VPl G K pk N x h sl v w' := by
  unfold VPl at hh ⊢
  split at hh
  · exact hh
  · exact hh
  · exact hh
  · exact hh
  · exact hh
  · exact hh
  · exact hh
  · exact hh
  · exact hh
  · exact hh
  · exact hh
  · exact hh
  · exact hh
  · exact hh
  · exact hh
  · exact hh
  · exact hh
  · exact hh
  · exact hh
  · exact hh
  · exact hh
  · exact hh
  · exact hh
  · exact hh
  · exact hh
  · exact hh
  · exact hh
  · exact hh
  · exact hh
  · exact hh
  · exact hh
  · exact hh
  · exact hh
  · exact hh
  · trivial

set_option maxHeartbeats 3200000 in
theorem looks_any (base : Nat) (w : World) (G : Nat) (p : Nat → Nat) (r : Nat → ByteArray) (m : Nat → List UInt8) (S : Nat → Nat → Prop) (hP : PlW base w G p r m S) (hr : ∀ k, k < 3 → sb (r k) = m k) (K : Nat) (hK : K < 3) (hm : (m K).length < 70368744177664) (hT : Tab w) (hgs : 0 < w.heap.size) :
    Calls Tryd.prog 12 #[.pointer (some ⟨G, 0, none⟩), .int .i64 (K : Int)] w fun e w' => e = .returned (.bool true) ∧ Below w.heap.size w w' := by
  have hx : (r K).size = (m K).length := by rw [← hr K hK]; simp [sb]
  have hT' : ∀ u, Below w.heap.size w u → Tab u := fun u h => hT.kept (Keep.of_below h (fun _ => False)) hgs (fun h => h)
  have cs : ∀ u, Below w.heap.size w u → _ := fun u hu => dsumP base u (p K) (m K) (S K) ((hP.ds.dg K hK).below hu) (hT' u hu) (Nat.lt_of_lt_of_le hgs hu.size) (by omega)
  have cl : ∀ u, Below w.heap.size w u → _ := fun u hu => lenP base u (p K) (m K) (S K) ((hP.ds.dg K hK).below hu)
  have cf : ∀ u, _ := fun u => rsum_any u (r K) (by omega)
  rw [hr K hK] at cf
  have cq := Gc_q (fun k => ptr (p k)) r K hK
  have cr := Gc_r (fun k => ptr (p k)) r K hK
  have xg := hP.hG
  obtain ⟨h, hh⟩ : ∃ h, h = sha (m K) := ⟨_, rfl⟩
  have hl : h.length = 32 := by rw [hh]; exact sha_length _
  simp only [← hh, hv_agg] at cs cf
  generalize Gc (fun k => ptr (p k)) r = gc at cq cr xg
  simp only [ptr] at cq
  generalize p K = pk at cs cl cq
  generalize r K = x at cf cr hx
  generalize (m K).length = N at cl hx hm
  have u1 : IntKind.u64.wrap (N : Int) = (N : Int) := by simp [IntKind.wrap, IntKind.bits, IntKind.signed]; omega
  have CS := Bx.mk cs; have CL := Bx.mk cl; have CF := Bx.mk cf; have CQ := Bx.mk cq; have CR := Bx.mk cr; have XG := Bx.mk xg; have HL := Bx.mk hl; have SZ := Bx.mk hx; have U1 := Bx.mk u1; have KL := Bx.mk hK
  clear cs cl cf cq cr xg hh hl hx u1 hP hr hT hgs hT' hK hm
  go_enter Tryd.func12, Tryd.ntmps12
  go_upto_region 1 with (fail)
  refine wp_region_inv (n := 38) (VPl G K pk N x h) (by kernel_rfl) (by kernel_rfl) rfl (VPl_mono G K pk N x h) ?_ ?_
  · intro oi o hi f u hsame hbel hdep
    match oi, hi with
    | 0, hi =>
      cases (show some _ = some o from hi)
      have e0 : f.tmps.getD 0 undef = .pointer (some ⟨G, 0, none⟩) := hsame.slot 0 (fun _ _ h => invB_not (n := 38) (by kernel_rfl) 0 (by kernel_rfl) h)
      clear hdep hsame hi
      exact ⟨wanted_none rfl, shows_move rfl _ rfl e0⟩
    | 1, hi =>
      cases (show some _ = some o from hi)
      have e1 : f.tmps.getD 1 undef = .int .i64 (K : Int) := hsame.slot 1 (fun _ _ h => invB_not (n := 38) (by kernel_rfl) 1 (by kernel_rfl) h)
      clear hdep hsame hi
      exact ⟨wanted_none rfl, shows_move rfl _ rfl e1⟩
    | 2, hi =>
      cases (show some _ = some o from hi)
      have e5 : f.tmps.getD 5 undef = .pointer (some ⟨G, 0, none⟩) := dep_of (V := (VPl G K pk N x h)) hdep 0 5 (by kernel_rfl) (by kernel_rfl)
      clear hdep hsame hi
      exact ⟨wanted_none rfl, shows_run rfl (.pointer (some ⟨G, 0, none⟩)) (by simp only [execOp, Act.eval]; go_simp) (Below.refl _ _) rfl⟩
    | 3, hi =>
      cases (show some _ = some o from hi)
      have e7 : f.tmps.getD 7 undef = .pointer (some ⟨G, 0, none⟩) := dep_of (V := (VPl G K pk N x h)) hdep 2 7 (by kernel_rfl) (by kernel_rfl)
      clear hdep hsame hi
      exact ⟨wanted_none rfl, shows_run rfl (.pointer (some ⟨G, 0, none⟩)) (by simp only [execOp, Act.eval]; go_simp) (Below.refl _ _) rfl⟩
    | 4, hi =>
      cases (show some _ = some o from hi)
      have e6 : f.tmps.getD 6 undef = .int .i64 (K : Int) := dep_of (V := (VPl G K pk N x h)) hdep 1 6 (by kernel_rfl) (by kernel_rfl)
      have e8 : f.tmps.getD 8 undef = .pointer (some ⟨G, 0, none⟩) := dep_of (V := (VPl G K pk N x h)) hdep 3 8 (by kernel_rfl) (by kernel_rfl)
      clear hdep hsame hi
      have f1 : ¬ (3 : Int) ≤ (K : Int) := by have := KL.out; omega
      have f2 : (K : Int) < (3 : Int) := by have := KL.out; omega
      exact ⟨wanted_none rfl, shows_run rfl (.pointer (some ⟨G, K, none⟩)) (by simp only [execOp, Act.eval]; go_simp) (Below.refl _ _) rfl⟩
    | 5, hi =>
      cases (show some _ = some o from hi)
      have e9 : f.tmps.getD 9 undef = .pointer (some ⟨G, K, none⟩) := dep_of (V := (VPl G K pk N x h)) hdep 4 9 (by kernel_rfl) (by kernel_rfl)
      clear hdep hsame hi
      have c0 := (er_cellAt ((hbel.block _ (Array.getElem?_eq_some_iff.1 XG.out).1).trans XG.out) K _ CQ.out)
      exact ⟨wanted_none rfl, shows_run rfl (.pointer (some ⟨pk, 0, none⟩)) (by simp only [execOp, Act.eval]; go_simp) (Below.refl _ _) rfl⟩
    | 6, hi =>
      cases (show some _ = some o from hi)
      have e10 : f.tmps.getD 10 undef = .pointer (some ⟨pk, 0, none⟩) := dep_of (V := (VPl G K pk N x h)) hdep 5 10 (by kernel_rfl) (by kernel_rfl)
      clear hdep hsame hi
      have c := CS.out u hbel
      exact ⟨wanted_none rfl, shows_call rfl 16 #[.pointer (some ⟨pk, 0, none⟩)] (by simp only [execOp, Act.eval]; go_simp) (c) (fun _ => rfl)⟩
    | 7, hi =>
      cases (show some _ = some o from hi)
      have e0 : f.tmps.getD 0 undef = .pointer (some ⟨G, 0, none⟩) := hsame.slot 0 (fun _ _ h => invB_not (n := 38) (by kernel_rfl) 0 (by kernel_rfl) h)
      clear hdep hsame hi
      exact ⟨wanted_none rfl, shows_move rfl _ rfl e0⟩
    | 8, hi =>
      cases (show some _ = some o from hi)
      have e1 : f.tmps.getD 1 undef = .int .i64 (K : Int) := hsame.slot 1 (fun _ _ h => invB_not (n := 38) (by kernel_rfl) 1 (by kernel_rfl) h)
      clear hdep hsame hi
      exact ⟨wanted_none rfl, shows_move rfl _ rfl e1⟩
    | 9, hi =>
      cases (show some _ = some o from hi)
      have e12 : f.tmps.getD 12 undef = .pointer (some ⟨G, 0, none⟩) := dep_of (V := (VPl G K pk N x h)) hdep 7 12 (by kernel_rfl) (by kernel_rfl)
      clear hdep hsame hi
      exact ⟨wanted_none rfl, shows_run rfl (.pointer (some ⟨G, 0, none⟩)) (by simp only [execOp, Act.eval]; go_simp) (Below.refl _ _) rfl⟩
    | 10, hi =>
      cases (show some _ = some o from hi)
      have e14 : f.tmps.getD 14 undef = .pointer (some ⟨G, 0, none⟩) := dep_of (V := (VPl G K pk N x h)) hdep 9 14 (by kernel_rfl) (by kernel_rfl)
      clear hdep hsame hi
      exact ⟨wanted_none rfl, shows_run rfl (.pointer (some ⟨G, 3, none⟩)) (by simp only [execOp, Act.eval]; go_simp) (Below.refl _ _) rfl⟩
    | 11, hi =>
      cases (show some _ = some o from hi)
      have e13 : f.tmps.getD 13 undef = .int .i64 (K : Int) := dep_of (V := (VPl G K pk N x h)) hdep 8 13 (by kernel_rfl) (by kernel_rfl)
      have e15 : f.tmps.getD 15 undef = .pointer (some ⟨G, 3, none⟩) := dep_of (V := (VPl G K pk N x h)) hdep 10 15 (by kernel_rfl) (by kernel_rfl)
      clear hdep hsame hi
      have f1 : ¬ (3 : Int) ≤ (K : Int) := by have := KL.out; omega
      have f2 : (K : Int) < (3 : Int) := by have := KL.out; omega
      exact ⟨wanted_none rfl, shows_run rfl (.pointer (some ⟨G, 3 + K, none⟩)) (by simp only [execOp, Act.eval]; go_simp) (Below.refl _ _) rfl⟩
    | 12, hi =>
      cases (show some _ = some o from hi)
      have e16 : f.tmps.getD 16 undef = .pointer (some ⟨G, 3 + K, none⟩) := dep_of (V := (VPl G K pk N x h)) hdep 11 16 (by kernel_rfl) (by kernel_rfl)
      clear hdep hsame hi
      have c0 := (er_cellAt ((hbel.block _ (Array.getElem?_eq_some_iff.1 XG.out).1).trans XG.out) (3 + K) _ CR.out)
      exact ⟨wanted_none rfl, shows_run rfl (.string x) (by simp only [execOp, Act.eval]; go_simp) (Below.refl _ _) rfl⟩
    | 13, hi =>
      cases (show some _ = some o from hi)
      have e17 : f.tmps.getD 17 undef = .string x := dep_of (V := (VPl G K pk N x h)) hdep 12 17 (by kernel_rfl) (by kernel_rfl)
      clear hdep hsame hi
      have c := CF.out u
      exact ⟨wanted_none rfl, shows_call rfl 14 #[.string x] (by simp only [execOp, Act.eval]; go_simp) (c) (fun _ => rfl)⟩
    | 14, hi =>
      cases (show some _ = some o from hi)
      have e11 : f.tmps.getD 11 undef = .agg (ocells (h)) := dep_of (V := (VPl G K pk N x h)) hdep 6 11 (by kernel_rfl) (by kernel_rfl)
      have e18 : f.tmps.getD 18 undef = .agg (ocells (h)) := dep_of (V := (VPl G K pk N x h)) hdep 13 18 (by kernel_rfl) (by kernel_rfl)
      clear hdep hsame hi
      have q := fun u => hv_eq u h h HL.out HL.out
      simp only [hv_agg, beq_self_eq_true] at q
      exact ⟨wanted_none rfl, shows_run rfl (.bool true) (by simp only [execOp, Act.eval]; go_simp) (Below.refl _ _) rfl⟩
    | 15, hi =>
      cases (show some _ = some o from hi)
      have e19 : f.tmps.getD 19 undef = .bool true := dep_of (V := (VPl G K pk N x h)) hdep 14 19 (by kernel_rfl) (by kernel_rfl)
      clear hdep hsame hi
      exact ⟨wanted_none rfl, shows_move rfl _ rfl e19⟩
    | 16, hi =>
      cases (show some _ = some o from hi)
      have e0 : f.tmps.getD 0 undef = .pointer (some ⟨G, 0, none⟩) := hsame.slot 0 (fun _ _ h => invB_not (n := 38) (by kernel_rfl) 0 (by kernel_rfl) h)
      have eg : f.tmps.getD 20 undef = .bool true := dep_of (V := (VPl G K pk N x h)) hdep 15 20 (by kernel_rfl) (by kernel_rfl)
      clear hdep hsame hi
      exact ⟨wanted_of 15 rfl eg (by kernel_rfl), shows_move rfl _ rfl e0⟩
    | 17, hi =>
      cases (show some _ = some o from hi)
      have e1 : f.tmps.getD 1 undef = .int .i64 (K : Int) := hsame.slot 1 (fun _ _ h => invB_not (n := 38) (by kernel_rfl) 1 (by kernel_rfl) h)
      have eg : f.tmps.getD 20 undef = .bool true := dep_of (V := (VPl G K pk N x h)) hdep 15 20 (by kernel_rfl) (by kernel_rfl)
      clear hdep hsame hi
      exact ⟨wanted_of 15 rfl eg (by kernel_rfl), shows_move rfl _ rfl e1⟩
    | 18, hi =>
      cases (show some _ = some o from hi)
      have e21 : f.tmps.getD 21 undef = .pointer (some ⟨G, 0, none⟩) := dep_of (V := (VPl G K pk N x h)) hdep 16 21 (by kernel_rfl) (by kernel_rfl)
      have eg : f.tmps.getD 20 undef = .bool true := dep_of (V := (VPl G K pk N x h)) hdep 15 20 (by kernel_rfl) (by kernel_rfl)
      clear hdep hsame hi
      exact ⟨wanted_of 15 rfl eg (by kernel_rfl), shows_run rfl (.pointer (some ⟨G, 0, none⟩)) (by simp only [execOp, Act.eval]; go_simp) (Below.refl _ _) rfl⟩
    | 19, hi =>
      cases (show some _ = some o from hi)
      have e23 : f.tmps.getD 23 undef = .pointer (some ⟨G, 0, none⟩) := dep_of (V := (VPl G K pk N x h)) hdep 18 23 (by kernel_rfl) (by kernel_rfl)
      have eg : f.tmps.getD 20 undef = .bool true := dep_of (V := (VPl G K pk N x h)) hdep 15 20 (by kernel_rfl) (by kernel_rfl)
      clear hdep hsame hi
      exact ⟨wanted_of 15 rfl eg (by kernel_rfl), shows_run rfl (.pointer (some ⟨G, 0, none⟩)) (by simp only [execOp, Act.eval]; go_simp) (Below.refl _ _) rfl⟩
    | 20, hi =>
      cases (show some _ = some o from hi)
      have e22 : f.tmps.getD 22 undef = .int .i64 (K : Int) := dep_of (V := (VPl G K pk N x h)) hdep 17 22 (by kernel_rfl) (by kernel_rfl)
      have e24 : f.tmps.getD 24 undef = .pointer (some ⟨G, 0, none⟩) := dep_of (V := (VPl G K pk N x h)) hdep 19 24 (by kernel_rfl) (by kernel_rfl)
      have eg : f.tmps.getD 20 undef = .bool true := dep_of (V := (VPl G K pk N x h)) hdep 15 20 (by kernel_rfl) (by kernel_rfl)
      clear hdep hsame hi
      have f1 : ¬ (3 : Int) ≤ (K : Int) := by have := KL.out; omega
      have f2 : (K : Int) < (3 : Int) := by have := KL.out; omega
      exact ⟨wanted_of 15 rfl eg (by kernel_rfl), shows_run rfl (.pointer (some ⟨G, K, none⟩)) (by simp only [execOp, Act.eval]; go_simp) (Below.refl _ _) rfl⟩
    | 21, hi =>
      cases (show some _ = some o from hi)
      have e25 : f.tmps.getD 25 undef = .pointer (some ⟨G, K, none⟩) := dep_of (V := (VPl G K pk N x h)) hdep 20 25 (by kernel_rfl) (by kernel_rfl)
      have eg : f.tmps.getD 20 undef = .bool true := dep_of (V := (VPl G K pk N x h)) hdep 15 20 (by kernel_rfl) (by kernel_rfl)
      clear hdep hsame hi
      have c0 := (er_cellAt ((hbel.block _ (Array.getElem?_eq_some_iff.1 XG.out).1).trans XG.out) K _ CQ.out)
      exact ⟨wanted_of 15 rfl eg (by kernel_rfl), shows_run rfl (.pointer (some ⟨pk, 0, none⟩)) (by simp only [execOp, Act.eval]; go_simp) (Below.refl _ _) rfl⟩
    | 22, hi =>
      cases (show some _ = some o from hi)
      have e26 : f.tmps.getD 26 undef = .pointer (some ⟨pk, 0, none⟩) := dep_of (V := (VPl G K pk N x h)) hdep 21 26 (by kernel_rfl) (by kernel_rfl)
      have eg : f.tmps.getD 20 undef = .bool true := dep_of (V := (VPl G K pk N x h)) hdep 15 20 (by kernel_rfl) (by kernel_rfl)
      clear hdep hsame hi
      have c := CL.out u hbel
      exact ⟨wanted_of 15 rfl eg (by kernel_rfl), shows_call rfl 19 #[.pointer (some ⟨pk, 0, none⟩)] (by simp only [execOp, Act.eval]; go_simp) ((c.mono fun e w' h => ⟨h.1, h.2 ▸ Below.refl _ _⟩)) (fun _ => rfl)⟩
    | 23, hi =>
      cases (show some _ = some o from hi)
      have e0 : f.tmps.getD 0 undef = .pointer (some ⟨G, 0, none⟩) := hsame.slot 0 (fun _ _ h => invB_not (n := 38) (by kernel_rfl) 0 (by kernel_rfl) h)
      have eg : f.tmps.getD 20 undef = .bool true := dep_of (V := (VPl G K pk N x h)) hdep 15 20 (by kernel_rfl) (by kernel_rfl)
      clear hdep hsame hi
      exact ⟨wanted_of 15 rfl eg (by kernel_rfl), shows_move rfl _ rfl e0⟩
    | 24, hi =>
      cases (show some _ = some o from hi)
      have e1 : f.tmps.getD 1 undef = .int .i64 (K : Int) := hsame.slot 1 (fun _ _ h => invB_not (n := 38) (by kernel_rfl) 1 (by kernel_rfl) h)
      have eg : f.tmps.getD 20 undef = .bool true := dep_of (V := (VPl G K pk N x h)) hdep 15 20 (by kernel_rfl) (by kernel_rfl)
      clear hdep hsame hi
      exact ⟨wanted_of 15 rfl eg (by kernel_rfl), shows_move rfl _ rfl e1⟩
    | 25, hi =>
      cases (show some _ = some o from hi)
      have e28 : f.tmps.getD 28 undef = .pointer (some ⟨G, 0, none⟩) := dep_of (V := (VPl G K pk N x h)) hdep 23 28 (by kernel_rfl) (by kernel_rfl)
      have eg : f.tmps.getD 20 undef = .bool true := dep_of (V := (VPl G K pk N x h)) hdep 15 20 (by kernel_rfl) (by kernel_rfl)
      clear hdep hsame hi
      exact ⟨wanted_of 15 rfl eg (by kernel_rfl), shows_run rfl (.pointer (some ⟨G, 0, none⟩)) (by simp only [execOp, Act.eval]; go_simp) (Below.refl _ _) rfl⟩
    | 26, hi =>
      cases (show some _ = some o from hi)
      have e30 : f.tmps.getD 30 undef = .pointer (some ⟨G, 0, none⟩) := dep_of (V := (VPl G K pk N x h)) hdep 25 30 (by kernel_rfl) (by kernel_rfl)
      have eg : f.tmps.getD 20 undef = .bool true := dep_of (V := (VPl G K pk N x h)) hdep 15 20 (by kernel_rfl) (by kernel_rfl)
      clear hdep hsame hi
      exact ⟨wanted_of 15 rfl eg (by kernel_rfl), shows_run rfl (.pointer (some ⟨G, 3, none⟩)) (by simp only [execOp, Act.eval]; go_simp) (Below.refl _ _) rfl⟩
    | 27, hi =>
      cases (show some _ = some o from hi)
      have e29 : f.tmps.getD 29 undef = .int .i64 (K : Int) := dep_of (V := (VPl G K pk N x h)) hdep 24 29 (by kernel_rfl) (by kernel_rfl)
      have e31 : f.tmps.getD 31 undef = .pointer (some ⟨G, 3, none⟩) := dep_of (V := (VPl G K pk N x h)) hdep 26 31 (by kernel_rfl) (by kernel_rfl)
      have eg : f.tmps.getD 20 undef = .bool true := dep_of (V := (VPl G K pk N x h)) hdep 15 20 (by kernel_rfl) (by kernel_rfl)
      clear hdep hsame hi
      have f1 : ¬ (3 : Int) ≤ (K : Int) := by have := KL.out; omega
      have f2 : (K : Int) < (3 : Int) := by have := KL.out; omega
      exact ⟨wanted_of 15 rfl eg (by kernel_rfl), shows_run rfl (.pointer (some ⟨G, 3 + K, none⟩)) (by simp only [execOp, Act.eval]; go_simp) (Below.refl _ _) rfl⟩
    | 28, hi =>
      cases (show some _ = some o from hi)
      have e32 : f.tmps.getD 32 undef = .pointer (some ⟨G, 3 + K, none⟩) := dep_of (V := (VPl G K pk N x h)) hdep 27 32 (by kernel_rfl) (by kernel_rfl)
      have eg : f.tmps.getD 20 undef = .bool true := dep_of (V := (VPl G K pk N x h)) hdep 15 20 (by kernel_rfl) (by kernel_rfl)
      clear hdep hsame hi
      have c0 := (er_cellAt ((hbel.block _ (Array.getElem?_eq_some_iff.1 XG.out).1).trans XG.out) (3 + K) _ CR.out)
      exact ⟨wanted_of 15 rfl eg (by kernel_rfl), shows_run rfl (.string x) (by simp only [execOp, Act.eval]; go_simp) (Below.refl _ _) rfl⟩
    | 29, hi =>
      cases (show some _ = some o from hi)
      have e33 : f.tmps.getD 33 undef = .string x := dep_of (V := (VPl G K pk N x h)) hdep 28 33 (by kernel_rfl) (by kernel_rfl)
      have eg : f.tmps.getD 20 undef = .bool true := dep_of (V := (VPl G K pk N x h)) hdep 15 20 (by kernel_rfl) (by kernel_rfl)
      clear hdep hsame hi
      have e := SZ.out
      exact ⟨wanted_of 15 rfl eg (by kernel_rfl), shows_run rfl (.int .i64 (N : Int)) (by simp only [execOp, Act.eval]; go_simp) (Below.refl _ _) rfl⟩
    | 30, hi =>
      cases (show some _ = some o from hi)
      have e34 : f.tmps.getD 34 undef = .int .i64 (N : Int) := dep_of (V := (VPl G K pk N x h)) hdep 29 34 (by kernel_rfl) (by kernel_rfl)
      have eg : f.tmps.getD 20 undef = .bool true := dep_of (V := (VPl G K pk N x h)) hdep 15 20 (by kernel_rfl) (by kernel_rfl)
      clear hdep hsame hi
      have d1 := U1.out
      exact ⟨wanted_of 15 rfl eg (by kernel_rfl), shows_run rfl (.int .u64 (N : Int)) (by simp only [execOp, Act.eval]; go_simp) (Below.refl _ _) rfl⟩
    | 31, hi =>
      cases (show some _ = some o from hi)
      have e27 : f.tmps.getD 27 undef = .int .u64 (N : Int) := dep_of (V := (VPl G K pk N x h)) hdep 22 27 (by kernel_rfl) (by kernel_rfl)
      have e35 : f.tmps.getD 35 undef = .int .u64 (N : Int) := dep_of (V := (VPl G K pk N x h)) hdep 30 35 (by kernel_rfl) (by kernel_rfl)
      have eg : f.tmps.getD 20 undef = .bool true := dep_of (V := (VPl G K pk N x h)) hdep 15 20 (by kernel_rfl) (by kernel_rfl)
      clear hdep hsame hi
      exact ⟨wanted_of 15 rfl eg (by kernel_rfl), shows_run rfl (.bool true) (by simp only [execOp, Act.eval]; go_simp) (Below.refl _ _) rfl⟩
    | 32, hi =>
      cases (show some _ = some o from hi)
      have e20 : f.tmps.getD 20 undef = .bool true := dep_of (V := (VPl G K pk N x h)) hdep 15 20 (by kernel_rfl) (by kernel_rfl)
      have e36 : f.tmps.getD 36 undef = .bool true := dep_of (V := (VPl G K pk N x h)) hdep 31 36 (by kernel_rfl) (by kernel_rfl)
      clear hdep hsame hi
      exact ⟨wanted_none rfl, shows_run rfl (.bool true) (by simp only [execOp, Act.eval]; go_simp) (Below.refl _ _) rfl⟩
    | 33, hi =>
      cases (show some _ = some o from hi)
      have e37 : f.tmps.getD 37 undef = .bool true := dep_of (V := (VPl G K pk N x h)) hdep 32 37 (by kernel_rfl) (by kernel_rfl)
      clear hdep hsame hi
      exact ⟨wanted_none rfl, shows_assign rfl _ rfl e37⟩
    | n + 34, hi => exact absurd hi (by simp)
  · intro f u hsame hbel hall
    have q5 : f.tmps.getD 5 undef = .pointer (some ⟨G, 0, none⟩) := hall 0 _ 5 rfl rfl
    have q6 : f.tmps.getD 6 undef = .int .i64 (K : Int) := hall 1 _ 6 rfl rfl
    have q7 : f.tmps.getD 7 undef = .pointer (some ⟨G, 0, none⟩) := hall 2 _ 7 rfl rfl
    have q8 : f.tmps.getD 8 undef = .pointer (some ⟨G, 0, none⟩) := hall 3 _ 8 rfl rfl
    have q9 : f.tmps.getD 9 undef = .pointer (some ⟨G, K, none⟩) := hall 4 _ 9 rfl rfl
    have q10 : f.tmps.getD 10 undef = .pointer (some ⟨pk, 0, none⟩) := hall 5 _ 10 rfl rfl
    have q11 : f.tmps.getD 11 undef = .agg (ocells (h)) := hall 6 _ 11 rfl rfl
    have q12 : f.tmps.getD 12 undef = .pointer (some ⟨G, 0, none⟩) := hall 7 _ 12 rfl rfl
    have q13 : f.tmps.getD 13 undef = .int .i64 (K : Int) := hall 8 _ 13 rfl rfl
    have q14 : f.tmps.getD 14 undef = .pointer (some ⟨G, 0, none⟩) := hall 9 _ 14 rfl rfl
    have q15 : f.tmps.getD 15 undef = .pointer (some ⟨G, 3, none⟩) := hall 10 _ 15 rfl rfl
    have q16 : f.tmps.getD 16 undef = .pointer (some ⟨G, 3 + K, none⟩) := hall 11 _ 16 rfl rfl
    have q17 : f.tmps.getD 17 undef = .string x := hall 12 _ 17 rfl rfl
    have q18 : f.tmps.getD 18 undef = .agg (ocells (h)) := hall 13 _ 18 rfl rfl
    have q19 : f.tmps.getD 19 undef = .bool true := hall 14 _ 19 rfl rfl
    have q20 : f.tmps.getD 20 undef = .bool true := hall 15 _ 20 rfl rfl
    have q21 : f.tmps.getD 21 undef = .pointer (some ⟨G, 0, none⟩) := hall 16 _ 21 rfl rfl
    have q22 : f.tmps.getD 22 undef = .int .i64 (K : Int) := hall 17 _ 22 rfl rfl
    have q23 : f.tmps.getD 23 undef = .pointer (some ⟨G, 0, none⟩) := hall 18 _ 23 rfl rfl
    have q24 : f.tmps.getD 24 undef = .pointer (some ⟨G, 0, none⟩) := hall 19 _ 24 rfl rfl
    have q25 : f.tmps.getD 25 undef = .pointer (some ⟨G, K, none⟩) := hall 20 _ 25 rfl rfl
    have q26 : f.tmps.getD 26 undef = .pointer (some ⟨pk, 0, none⟩) := hall 21 _ 26 rfl rfl
    have q27 : f.tmps.getD 27 undef = .int .u64 (N : Int) := hall 22 _ 27 rfl rfl
    have q28 : f.tmps.getD 28 undef = .pointer (some ⟨G, 0, none⟩) := hall 23 _ 28 rfl rfl
    have q29 : f.tmps.getD 29 undef = .int .i64 (K : Int) := hall 24 _ 29 rfl rfl
    have q30 : f.tmps.getD 30 undef = .pointer (some ⟨G, 0, none⟩) := hall 25 _ 30 rfl rfl
    have q31 : f.tmps.getD 31 undef = .pointer (some ⟨G, 3, none⟩) := hall 26 _ 31 rfl rfl
    have q32 : f.tmps.getD 32 undef = .pointer (some ⟨G, 3 + K, none⟩) := hall 27 _ 32 rfl rfl
    have q33 : f.tmps.getD 33 undef = .string x := hall 28 _ 33 rfl rfl
    have q34 : f.tmps.getD 34 undef = .int .i64 (N : Int) := hall 29 _ 34 rfl rfl
    have q35 : f.tmps.getD 35 undef = .int .u64 (N : Int) := hall 30 _ 35 rfl rfl
    have q36 : f.tmps.getD 36 undef = .bool true := hall 31 _ 36 rfl rfl
    have q37 : f.tmps.getD 37 undef = .bool true := hall 32 _ 37 rfl rfl
    have q4 : f.tmps.getD 4 undef = .bool true := hall 33 _ 4 rfl rfl
    obtain rfl := frame_eq hsame [(5, .pointer (some ⟨G, 0, none⟩)), (6, .int .i64 (K : Int)), (7, .pointer (some ⟨G, 0, none⟩)), (8, .pointer (some ⟨G, 0, none⟩)), (9, .pointer (some ⟨G, K, none⟩)), (10, .pointer (some ⟨pk, 0, none⟩)), (11, .agg (ocells (h))), (12, .pointer (some ⟨G, 0, none⟩)), (13, .int .i64 (K : Int)), (14, .pointer (some ⟨G, 0, none⟩)), (15, .pointer (some ⟨G, 3, none⟩)), (16, .pointer (some ⟨G, 3 + K, none⟩)), (17, .string x), (18, .agg (ocells (h))), (19, .bool true), (20, .bool true), (21, .pointer (some ⟨G, 0, none⟩)), (22, .int .i64 (K : Int)), (23, .pointer (some ⟨G, 0, none⟩)), (24, .pointer (some ⟨G, 0, none⟩)), (25, .pointer (some ⟨G, K, none⟩)), (26, .pointer (some ⟨pk, 0, none⟩)), (27, .int .u64 (N : Int)), (28, .pointer (some ⟨G, 0, none⟩)), (29, .int .i64 (K : Int)), (30, .pointer (some ⟨G, 0, none⟩)), (31, .pointer (some ⟨G, 3, none⟩)), (32, .pointer (some ⟨G, 3 + K, none⟩)), (33, .string x), (34, .int .i64 (N : Int)), (35, .int .u64 (N : Int)), (36, .bool true), (37, .bool true), (4, .bool true)] (by kernel_rfl) ⟨q5, q6, q7, q8, q9, q10, q11, q12, q13, q14, q15, q16, q17, q18, q19, q20, q21, q22, q23, q24, q25, q26, q27, q28, q29, q30, q31, q32, q33, q34, q35, q36, q37, q4, trivial⟩
    clear hall hsame q5 q6 q7 q8 q9 q10 q11 q12 q13 q14 q15 q16 q17 q18 q19 q20 q21 q22 q23 q24 q25 q26 q27 q28 q29 q30 q31 q32 q33 q34 q35 q36 q37 q4
    simp only [List.foldl, List.setIfInBounds_toArray, List.set_cons_succ, List.set_cons_zero]
    have HB := Bx.mk hbel
    clear hbel
    go_wp2_with fail
    go_ret
    exact ⟨rfl, HB.out⟩
end Go.Proofs.YtfoknhogclfhhaaDoor
