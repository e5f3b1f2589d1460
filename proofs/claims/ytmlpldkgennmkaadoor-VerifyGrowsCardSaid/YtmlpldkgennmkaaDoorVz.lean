/- cartularylaw18.VerifyProofs walked. -/
import Derived.Test.YtmlpldkgennmkaaDoorVy
namespace Go.Proofs.YtmlpldkgennmkaaDoor
set_option maxRecDepth 100000
open Go.RowKit
structure PrfAt (w : World) (n i s : Nat) (leaf root : List UInt8) (v : Value) : Prop where
  blk : w.heap[n]? = some (.cells (pcells i s leaf root v) 45 (0, 0))
  ll : leaf.length = 32
  lr : root.length = 32
theorem PrfAt.lt {w : World} {n i s : Nat} {leaf root : List UInt8} {v : Value} (h : PrfAt w n i s leaf root v) : n < w.heap.size := (Array.getElem?_eq_some_iff.1 h.blk).1
theorem PrfAt.below {w w' : World} {n i s : Nat} {leaf root : List UInt8} {v : Value} (h : PrfAt w n i s leaf root v) (k : Below w.heap.size w w') : PrfAt w' n i s leaf root v := ⟨(k.block n h.lt).trans h.blk, h.ll, h.lr⟩
theorem PrfAt.cell0 {w : World} {n i s : Nat} {leaf root : List UInt8} {v : Value} (h : PrfAt w n i s leaf root v) : w.cell? ⟨n, 0, none⟩ = some (.int .u64 (i : Int)) := er_cellAt h.blk 0 _ (by unfold pcells; rw [Array.getElem?_append_left (by simp)]; rfl)
theorem PrfAt.cell1 {w : World} {n i s : Nat} {leaf root : List UInt8} {v : Value} (h : PrfAt w n i s leaf root v) : w.cell? ⟨n, 1, none⟩ = some (.int .u64 (s : Int)) := er_cellAt h.blk 1 _ (by unfold pcells; rw [Array.getElem?_append_left (by simp)]; rfl)
theorem PrfAt.cellL {w : World} {n i s : Nat} {leaf root : List UInt8} {v : Value} (h : PrfAt w n i s leaf root v) : w.cell? ⟨n, 66, none⟩ = some v := er_cellAt h.blk 66 _ (by
  unfold pcells
  rw [Array.getElem?_append_right (by simp), Array.getElem?_append_right (by simp [ocells_size, h.ll]), Array.getElem?_append_right (by simp [ocells_size, h.ll, h.lr])]
  simp [ocells_size, h.ll, h.lr])
theorem PrfAt.leafAt {w : World} {n i s : Nat} {leaf root : List UInt8} {v : Value} (h : PrfAt w n i s leaf root v) : w.rangeAt n 2 (bcells leaf) := fun j x hx => er_cellAt h.blk (2 + j) x (by
  have hj := (List.getElem?_eq_some_iff.1 hx).1
  rw [bcells_length, h.ll] at hj
  unfold pcells
  rw [Array.getElem?_append_right (by simp), Array.getElem?_append_left (by simp [ocells_size, h.ll]; omega)]
  simpa [ocells] using hx)
theorem PrfAt.rootAt {w : World} {n i s : Nat} {leaf root : List UInt8} {v : Value} (h : PrfAt w n i s leaf root v) : w.rangeAt n 34 (bcells root) := fun j x hx => er_cellAt h.blk (34 + j) x (by
  have hj := (List.getElem?_eq_some_iff.1 hx).1
  rw [bcells_length, h.lr] at hj
  unfold pcells
  rw [Array.getElem?_append_right (by simp; omega), Array.getElem?_append_right (by simp [ocells_size, h.ll]; omega), Array.getElem?_append_left (by simp [ocells_size, h.ll, h.lr]; omega)]
  have : (34 + j - #[Value.int IntKind.u64 (i : Int), Value.int IntKind.u64 (s : Int)].size - (ocells leaf).size) = j := by simp [ocells_size, h.ll]; omega
  rw [this]
  simpa [ocells] using hx)
theorem PrfAt.new (w : World) (i s : Nat) {leaf root : List UInt8} (v : Value) (hl : leaf.length = 32) (hr : root.length = 32) : PrfAt (w.alloc (.cells (pcells i s leaf root v) 45)) w.heap.size i s leaf root v := ⟨heap_alloc_new _ _, hl, hr⟩
theorem cons_same (A : Nat → Addr) (o s : Nat) (before after : List UInt8) (ps : List (List UInt8)) (u : World) (hE : Errs u A) :
    Calls Tryd.prog 12 #[consV A o s before after ps, rconsV o s before after ps] u fun e w' => e = .returned (.bool true) ∧ Below u.heap.size u w' := by
  rcases cons_ways A o s before after ps with ⟨k, hk, h1, h2⟩ | ⟨h1, h2⟩
  · rw [h1, h2]
    exact (same_err hE (.plain k hk) ((k : Int) + 1) (-1)).mono fun e w' ⟨h1, h2⟩ => ⟨h1.trans (by simp), h2⟩
  · rw [h1, h2]
    exact (same_err hE .no 0 0).mono fun e w' ⟨h1, h2⟩ => ⟨h1.trans (by simp), h2⟩
def VQ4 (A : Nat → Addr) (i s : Nat) (leaf root : List UInt8) (n1 : Nat) (ad : Option Addr) (n cap B m : Nat) (ps : List (List UInt8)) (sl : Nat) (v : Value) (_w : World) : Prop :=
  match sl with
  | 12 => v = .pointer (some ⟨n1, 0, none⟩)
  | 13 => v = .int .u64 (i : Int)
  | 14 => v = .pointer (some ⟨n1, 1, none⟩)
  | 15 => v = .int .u64 (s : Int)
  | 16 => v = .pointer (some ⟨n1, 2, none⟩)
  | 17 => v = .agg (ocells leaf)
  | 18 => v = .pointer (some ⟨n1, 34, none⟩)
  | 19 => v = .agg (ocells root)
  | 20 => v = .slice (some ⟨B, 0, none⟩) m (m + 1)
  | 21 => v = consV A i s leaf root ps
  | 22 => v = .pointer (some ⟨n1, 0, none⟩)
  | 23 => v = .int .u64 (i : Int)
  | 24 => v = .pointer (some ⟨n1, 1, none⟩)
  | 25 => v = .int .u64 (s : Int)
  | 26 => v = .pointer (some ⟨n1, 2, none⟩)
  | 27 => v = .agg (ocells leaf)
  | 28 => v = .pointer (some ⟨n1, 34, none⟩)
  | 29 => v = .agg (ocells root)
  | 30 => v = .pointer (some ⟨n1, 66, none⟩)
  | 31 => v = .slice ad n cap
  | 32 => v = rconsV i s leaf root ps
  | 33 => v = .bool true
  | 34 => v = .bool true
  | 35 => v = .slice (some ⟨B, 0, none⟩) m (m + 1)
  | 36 => v = .pointer (some ⟨n1, 66, none⟩)
  | 37 => v = .slice ad n cap
  | 38 => v = .bool true
  | 39 => v = .bool true
  | 40 => v = .bool true
  | 41 => v = .bool true
  | 42 => v = .bool true
  | 2 => v = .bool true
  | _ => True
theorem VQ4_mono (A : Nat → Addr) (i s : Nat) (leaf root : List UInt8) (n1 : Nat) (ad : Option Addr) (n cap B m : Nat) (ps : List (List UInt8)) (sl : Nat) (v : Value) (w w' : World) (h : VQ4 A i s leaf root n1 ad n cap B m ps sl v w) (_k : Below w.heap.size w w') : VQ4 A i s leaf root n1 ad n cap B m ps sl v w' := by
  unfold VQ4 at h ⊢
  split at h
  · exact h
  · exact h
  · exact h
  · exact h
  · exact h
  · exact h
  · exact h
  · exact h
  · exact h
  · exact h
  · exact h
  · exact h
  · exact h
  · exact h
  · exact h
  · exact h
  · exact h
  · exact h
  · exact h
  · exact h
  · exact h
  · exact h
  · exact h
  · exact h
  · exact h
  · exact h
  · exact h
  · exact h
  · exact h
  · exact h
  · exact h
  · exact h
  · trivial

set_option maxHeartbeats 6400000 in
theorem proofs_any (A : Nat → Addr) (w : World) (i s : Nat) (hi : i < 18446744073709551616) (hs64 : s < 18446744073709551616) (leaf root : List UInt8) (hl : leaf.length = 32) (hr : root.length = 32) (ad : Option Addr) (n cap : Nat) (ps : List (List UInt8)) (hH : Hss w (.slice ad n cap) ps) (hT : Hs A w) :
    Calls Tryd.prog 4 #[.agg (pcells i s leaf root (.slice ad n cap))] w fun e w' => e = .returned (.bool true) ∧ Below w.heap.size w w' := by
  have pa := PrfAt.new w i s (.slice ad n cap) hl hr
  have kb := er_al (Below.refl w.heap.size w) (.cells (pcells i s leaf root (.slice ad n cap)) 45)
  obtain ⟨_, c', e1, hc1, hc2⟩ := hH.len
  have hcc : cap = c' := by cases e1; rfl
  subst hcc
  have hn : n = ps.length := by cases e1; rfl
  have LL := Bx.mk hl; have RL := Bx.mk hr; have HH := Bx.mk hT; have HHS := Bx.mk hH; have I64 := Bx.mk hi; have S64 := Bx.mk hs64; have HN := Bx.mk hn
  have hn1 : n ≤ cap := by omega
  clear hl hr hT hH hi hs64 e1 hn hc1
  generalize hpc : pcells i s leaf root (.slice ad n cap) = pc at pa kb ⊢
  clear hpc
  go_enter Tryd.func4, Tryd.ntmps4
  go_upto_region 1 with (fail)
  change Code.wp _ _ _ _ (w.alloc (.cells pc 45))
  generalize w.alloc (.cells pc 45) = W at pa kb ⊢
  obtain ⟨n1, hn1'⟩ : ∃ n1, n1 = w.heap.size := ⟨_, rfl⟩
  rw [← hn1'] at pa ⊢
  have hcl := pa.cellL
  have hbe := beyond_any (W.alloc (.cells #[.int .i64 (n : Int)] 3)) (.slice (some ⟨W.heap.size, 0, none⟩) 1 1) [n] (ints_one _ _ _ rfl) (by simp; omega)
  have kb2 := er_al (Below.refl W.heap.size W) (.cells #[.int .i64 (n : Int)] 3)
  have PA := Bx.mk pa; have KB := Bx.mk kb; have HBE := Bx.mk hbe; have KB2 := Bx.mk kb2
  clear pa kb hbe kb2 hn1'
  go_wp2_with fail
  refine HBE.out.mono ?_
  rintro e w1 ⟨rfl, hw1⟩
  rw [hw1] at KB2
  rw [show ([n].sum : Nat) = n by simp]
  clear hw1 HBE hcl
  have PA1 := Bx.mk (PA.out.below KB2.out); have K1 := Bx.mk (KB.out.trans (KB2.out.mono KB.out.size)); clear KB2 PA KB
  by_cases hgt : 1048576 < n
  · rw [decide_eq_true hgt]
    go_wp2_with fail
    go_ret
    exact ⟨rfl, K1.out⟩
  · rw [decide_eq_false hgt]
    have hm : ps.length ≤ 1048576 := by have := HN.out; omega
    have HM := Bx.mk hm
    clear hgt hm
    have hcl := PA1.out.cellL
    go_wp2_with fail
    refine (twin_any w1 ad n cap ps (HHS.out.below K1.out) HM.out).mono ?_
    rintro e w2 ⟨vt, rfl, ht, hb⟩
    clear hcl
    have PA := Bx.mk (PA1.out.below hb); have KB := Bx.mk (K1.out.trans (hb.mono K1.out.size)); clear hb PA1 K1
    obtain ⟨B, rfl⟩ : ∃ B, vt = .slice (some ⟨B, 0, none⟩) ps.length (ps.length + 1) := by obtain ⟨_, B, e, _⟩ := ht; exact ⟨B, e⟩
    obtain ⟨m, hm⟩ : ∃ m, m = ps.length := ⟨_, rfl⟩
    rw [← hm] at ht ⊢
    have TW := Bx.mk ht; clear ht hm
    go_upto_region 4 with (fail)
    refine wp_region_inv (n := 43) (VQ4 A i s leaf root n1 ad n cap B m ps) (by kernel_rfl) (by kernel_rfl) rfl (VQ4_mono A i s leaf root n1 ad n cap B m ps) ?_ ?_
    · intro oi o hi f u hsame hbel hdep
      have hbw := KB.out.trans (hbel.mono KB.out.size)
      have hu := HH.out.below hbw
      have hh := HHS.out.below hbw
      have ht := TW.out.below hbel
      have hp := PA.out.below hbel
      match oi, hi with
      | 0, hi =>
        cases (show some _ = some o from hi)
        have e1 : f.tmps.getD 1 undef = .pointer (some ⟨n1, 0, none⟩) := hsame.slot 1 (fun _ _ h => invB_not (n := 43) (by kernel_rfl) 1 (by kernel_rfl) h)
        clear hdep hsame hi
        exact ⟨wanted_none rfl, shows_run rfl (.pointer (some ⟨n1, 0, none⟩)) (by simp only [execOp, Act.eval]; go_simp) (Below.refl _ _) rfl⟩
      | 1, hi =>
        cases (show some _ = some o from hi)
        have e12 : f.tmps.getD 12 undef = .pointer (some ⟨n1, 0, none⟩) := dep_of (V := (VQ4 A i s leaf root n1 ad n cap B m ps)) hdep 0 12 (by kernel_rfl) (by kernel_rfl)
        clear hdep hsame hi
        have hc := hp.cell0
        exact ⟨wanted_none rfl, shows_run rfl (.int .u64 (i : Int)) (by simp only [execOp, Act.eval]; go_simp) (Below.refl _ _) rfl⟩
      | 2, hi =>
        cases (show some _ = some o from hi)
        have e1 : f.tmps.getD 1 undef = .pointer (some ⟨n1, 0, none⟩) := hsame.slot 1 (fun _ _ h => invB_not (n := 43) (by kernel_rfl) 1 (by kernel_rfl) h)
        clear hdep hsame hi
        exact ⟨wanted_none rfl, shows_run rfl (.pointer (some ⟨n1, 1, none⟩)) (by simp only [execOp, Act.eval]; go_simp) (Below.refl _ _) rfl⟩
      | 3, hi =>
        cases (show some _ = some o from hi)
        have e14 : f.tmps.getD 14 undef = .pointer (some ⟨n1, 1, none⟩) := dep_of (V := (VQ4 A i s leaf root n1 ad n cap B m ps)) hdep 2 14 (by kernel_rfl) (by kernel_rfl)
        clear hdep hsame hi
        have hc := hp.cell1
        exact ⟨wanted_none rfl, shows_run rfl (.int .u64 (s : Int)) (by simp only [execOp, Act.eval]; go_simp) (Below.refl _ _) rfl⟩
      | 4, hi =>
        cases (show some _ = some o from hi)
        have e1 : f.tmps.getD 1 undef = .pointer (some ⟨n1, 0, none⟩) := hsame.slot 1 (fun _ _ h => invB_not (n := 43) (by kernel_rfl) 1 (by kernel_rfl) h)
        clear hdep hsame hi
        exact ⟨wanted_none rfl, shows_run rfl (.pointer (some ⟨n1, 2, none⟩)) (by simp only [execOp, Act.eval]; go_simp) (Below.refl _ _) rfl⟩
      | 5, hi =>
        cases (show some _ = some o from hi)
        have e16 : f.tmps.getD 16 undef = .pointer (some ⟨n1, 2, none⟩) := dep_of (V := (VQ4 A i s leaf root n1 ad n cap B m ps)) hdep 4 16 (by kernel_rfl) (by kernel_rfl)
        clear hdep hsame hi
        exact ⟨wanted_none rfl, shows_mid rfl 24 (.tmp 16) rfl n1 (2) e16 (bcells leaf) hp.leafAt underH rfl (hszB' LL.out) rfl⟩
      | 6, hi =>
        cases (show some _ = some o from hi)
        have e1 : f.tmps.getD 1 undef = .pointer (some ⟨n1, 0, none⟩) := hsame.slot 1 (fun _ _ h => invB_not (n := 43) (by kernel_rfl) 1 (by kernel_rfl) h)
        clear hdep hsame hi
        exact ⟨wanted_none rfl, shows_run rfl (.pointer (some ⟨n1, 34, none⟩)) (by simp only [execOp, Act.eval]; go_simp) (Below.refl _ _) rfl⟩
      | 7, hi =>
        cases (show some _ = some o from hi)
        have e18 : f.tmps.getD 18 undef = .pointer (some ⟨n1, 34, none⟩) := dep_of (V := (VQ4 A i s leaf root n1 ad n cap B m ps)) hdep 6 18 (by kernel_rfl) (by kernel_rfl)
        clear hdep hsame hi
        exact ⟨wanted_none rfl, shows_mid rfl 24 (.tmp 18) rfl n1 (34) e18 (bcells root) hp.rootAt underH rfl (hszB' RL.out) rfl⟩
      | 8, hi =>
        cases (show some _ = some o from hi)
        have e3 : f.tmps.getD 3 undef = .slice (some ⟨B, 0, none⟩) m (m + 1) := hsame.slot 3 (fun _ _ h => invB_not (n := 43) (by kernel_rfl) 3 (by kernel_rfl) h)
        clear hdep hsame hi
        exact ⟨wanted_none rfl, shows_move rfl _ rfl e3⟩
      | 9, hi =>
        cases (show some _ = some o from hi)
        have e13 : f.tmps.getD 13 undef = .int .u64 (i : Int) := dep_of (V := (VQ4 A i s leaf root n1 ad n cap B m ps)) hdep 1 13 (by kernel_rfl) (by kernel_rfl)
        have e15 : f.tmps.getD 15 undef = .int .u64 (s : Int) := dep_of (V := (VQ4 A i s leaf root n1 ad n cap B m ps)) hdep 3 15 (by kernel_rfl) (by kernel_rfl)
        have e17 : f.tmps.getD 17 undef = .agg (ocells leaf) := dep_of (V := (VQ4 A i s leaf root n1 ad n cap B m ps)) hdep 5 17 (by kernel_rfl) (by kernel_rfl)
        have e19 : f.tmps.getD 19 undef = .agg (ocells root) := dep_of (V := (VQ4 A i s leaf root n1 ad n cap B m ps)) hdep 7 19 (by kernel_rfl) (by kernel_rfl)
        have e20 : f.tmps.getD 20 undef = .slice (some ⟨B, 0, none⟩) m (m + 1) := dep_of (V := (VQ4 A i s leaf root n1 ad n cap B m ps)) hdep 8 20 (by kernel_rfl) (by kernel_rfl)
        clear hdep hsame hi
        have c := cons_any A u i s I64.out S64.out leaf root LL.out RL.out _ _ _ ps ht.1 hu
        rw [hv_agg, hv_agg] at c
        exact ⟨wanted_none rfl, shows_call rfl 17 #[.int .u64 (i : Int), .int .u64 (s : Int), .agg (ocells leaf), .agg (ocells root), .slice (some ⟨B, 0, none⟩) m (m + 1)] (by simp only [execOp, Act.eval]; go_simp) (c) (fun _ => rfl)⟩
      | 10, hi =>
        cases (show some _ = some o from hi)
        have e1 : f.tmps.getD 1 undef = .pointer (some ⟨n1, 0, none⟩) := hsame.slot 1 (fun _ _ h => invB_not (n := 43) (by kernel_rfl) 1 (by kernel_rfl) h)
        clear hdep hsame hi
        exact ⟨wanted_none rfl, shows_run rfl (.pointer (some ⟨n1, 0, none⟩)) (by simp only [execOp, Act.eval]; go_simp) (Below.refl _ _) rfl⟩
      | 11, hi =>
        cases (show some _ = some o from hi)
        have e22 : f.tmps.getD 22 undef = .pointer (some ⟨n1, 0, none⟩) := dep_of (V := (VQ4 A i s leaf root n1 ad n cap B m ps)) hdep 10 22 (by kernel_rfl) (by kernel_rfl)
        clear hdep hsame hi
        have hc := hp.cell0
        exact ⟨wanted_none rfl, shows_run rfl (.int .u64 (i : Int)) (by simp only [execOp, Act.eval]; go_simp) (Below.refl _ _) rfl⟩
      | 12, hi =>
        cases (show some _ = some o from hi)
        have e1 : f.tmps.getD 1 undef = .pointer (some ⟨n1, 0, none⟩) := hsame.slot 1 (fun _ _ h => invB_not (n := 43) (by kernel_rfl) 1 (by kernel_rfl) h)
        clear hdep hsame hi
        exact ⟨wanted_none rfl, shows_run rfl (.pointer (some ⟨n1, 1, none⟩)) (by simp only [execOp, Act.eval]; go_simp) (Below.refl _ _) rfl⟩
      | 13, hi =>
        cases (show some _ = some o from hi)
        have e24 : f.tmps.getD 24 undef = .pointer (some ⟨n1, 1, none⟩) := dep_of (V := (VQ4 A i s leaf root n1 ad n cap B m ps)) hdep 12 24 (by kernel_rfl) (by kernel_rfl)
        clear hdep hsame hi
        have hc := hp.cell1
        exact ⟨wanted_none rfl, shows_run rfl (.int .u64 (s : Int)) (by simp only [execOp, Act.eval]; go_simp) (Below.refl _ _) rfl⟩
      | 14, hi =>
        cases (show some _ = some o from hi)
        have e1 : f.tmps.getD 1 undef = .pointer (some ⟨n1, 0, none⟩) := hsame.slot 1 (fun _ _ h => invB_not (n := 43) (by kernel_rfl) 1 (by kernel_rfl) h)
        clear hdep hsame hi
        exact ⟨wanted_none rfl, shows_run rfl (.pointer (some ⟨n1, 2, none⟩)) (by simp only [execOp, Act.eval]; go_simp) (Below.refl _ _) rfl⟩
      | 15, hi =>
        cases (show some _ = some o from hi)
        have e26 : f.tmps.getD 26 undef = .pointer (some ⟨n1, 2, none⟩) := dep_of (V := (VQ4 A i s leaf root n1 ad n cap B m ps)) hdep 14 26 (by kernel_rfl) (by kernel_rfl)
        clear hdep hsame hi
        exact ⟨wanted_none rfl, shows_mid rfl 24 (.tmp 26) rfl n1 (2) e26 (bcells leaf) hp.leafAt underH rfl (hszB' LL.out) rfl⟩
      | 16, hi =>
        cases (show some _ = some o from hi)
        have e1 : f.tmps.getD 1 undef = .pointer (some ⟨n1, 0, none⟩) := hsame.slot 1 (fun _ _ h => invB_not (n := 43) (by kernel_rfl) 1 (by kernel_rfl) h)
        clear hdep hsame hi
        exact ⟨wanted_none rfl, shows_run rfl (.pointer (some ⟨n1, 34, none⟩)) (by simp only [execOp, Act.eval]; go_simp) (Below.refl _ _) rfl⟩
      | 17, hi =>
        cases (show some _ = some o from hi)
        have e28 : f.tmps.getD 28 undef = .pointer (some ⟨n1, 34, none⟩) := dep_of (V := (VQ4 A i s leaf root n1 ad n cap B m ps)) hdep 16 28 (by kernel_rfl) (by kernel_rfl)
        clear hdep hsame hi
        exact ⟨wanted_none rfl, shows_mid rfl 24 (.tmp 28) rfl n1 (34) e28 (bcells root) hp.rootAt underH rfl (hszB' RL.out) rfl⟩
      | 18, hi =>
        cases (show some _ = some o from hi)
        have e1 : f.tmps.getD 1 undef = .pointer (some ⟨n1, 0, none⟩) := hsame.slot 1 (fun _ _ h => invB_not (n := 43) (by kernel_rfl) 1 (by kernel_rfl) h)
        clear hdep hsame hi
        exact ⟨wanted_none rfl, shows_run rfl (.pointer (some ⟨n1, 66, none⟩)) (by simp only [execOp, Act.eval]; go_simp) (Below.refl _ _) rfl⟩
      | 19, hi =>
        cases (show some _ = some o from hi)
        have e30 : f.tmps.getD 30 undef = .pointer (some ⟨n1, 66, none⟩) := dep_of (V := (VQ4 A i s leaf root n1 ad n cap B m ps)) hdep 18 30 (by kernel_rfl) (by kernel_rfl)
        clear hdep hsame hi
        have hc := hp.cellL
        exact ⟨wanted_none rfl, shows_run rfl (.slice ad n cap) (by simp only [execOp, Act.eval]; go_simp) (Below.refl _ _) rfl⟩
      | 20, hi =>
        cases (show some _ = some o from hi)
        have e23 : f.tmps.getD 23 undef = .int .u64 (i : Int) := dep_of (V := (VQ4 A i s leaf root n1 ad n cap B m ps)) hdep 11 23 (by kernel_rfl) (by kernel_rfl)
        have e25 : f.tmps.getD 25 undef = .int .u64 (s : Int) := dep_of (V := (VQ4 A i s leaf root n1 ad n cap B m ps)) hdep 13 25 (by kernel_rfl) (by kernel_rfl)
        have e27 : f.tmps.getD 27 undef = .agg (ocells leaf) := dep_of (V := (VQ4 A i s leaf root n1 ad n cap B m ps)) hdep 15 27 (by kernel_rfl) (by kernel_rfl)
        have e29 : f.tmps.getD 29 undef = .agg (ocells root) := dep_of (V := (VQ4 A i s leaf root n1 ad n cap B m ps)) hdep 17 29 (by kernel_rfl) (by kernel_rfl)
        have e31 : f.tmps.getD 31 undef = .slice ad n cap := dep_of (V := (VQ4 A i s leaf root n1 ad n cap B m ps)) hdep 19 31 (by kernel_rfl) (by kernel_rfl)
        clear hdep hsame hi
        have c := rcons_any u i s I64.out S64.out leaf root LL.out RL.out _ _ _ ps hh
        rw [hv_agg, hv_agg] at c
        exact ⟨wanted_none rfl, shows_call rfl 18 #[.int .u64 (i : Int), .int .u64 (s : Int), .agg (ocells leaf), .agg (ocells root), .slice ad n cap] (by simp only [execOp, Act.eval]; go_simp) (c) (fun _ => rfl)⟩
      | 21, hi =>
        cases (show some _ = some o from hi)
        have e21 : f.tmps.getD 21 undef = consV A i s leaf root ps := dep_of (V := (VQ4 A i s leaf root n1 ad n cap B m ps)) hdep 9 21 (by kernel_rfl) (by kernel_rfl)
        have e32 : f.tmps.getD 32 undef = rconsV i s leaf root ps := dep_of (V := (VQ4 A i s leaf root n1 ad n cap B m ps)) hdep 20 32 (by kernel_rfl) (by kernel_rfl)
        clear hdep hsame hi
        have c := cons_same A i s leaf root ps u hu.err
        exact ⟨wanted_none rfl, shows_call rfl 12 #[consV A i s leaf root ps, rconsV i s leaf root ps] (by simp only [execOp, Act.eval]; go_simp) (c) (fun _ => rfl)⟩
      | 22, hi =>
        cases (show some _ = some o from hi)
        have e33 : f.tmps.getD 33 undef = .bool true := dep_of (V := (VQ4 A i s leaf root n1 ad n cap B m ps)) hdep 21 33 (by kernel_rfl) (by kernel_rfl)
        clear hdep hsame hi
        exact ⟨wanted_none rfl, shows_move rfl _ rfl e33⟩
      | 23, hi =>
        cases (show some _ = some o from hi)
        have e3 : f.tmps.getD 3 undef = .slice (some ⟨B, 0, none⟩) m (m + 1) := hsame.slot 3 (fun _ _ h => invB_not (n := 43) (by kernel_rfl) 3 (by kernel_rfl) h)
        have eg : f.tmps.getD 34 undef = .bool true := dep_of (V := (VQ4 A i s leaf root n1 ad n cap B m ps)) hdep 22 34 (by kernel_rfl) (by kernel_rfl)
        clear hdep hsame hi
        exact ⟨wanted_of 22 rfl eg (by kernel_rfl), shows_move rfl _ rfl e3⟩
      | 24, hi =>
        cases (show some _ = some o from hi)
        have e1 : f.tmps.getD 1 undef = .pointer (some ⟨n1, 0, none⟩) := hsame.slot 1 (fun _ _ h => invB_not (n := 43) (by kernel_rfl) 1 (by kernel_rfl) h)
        have eg : f.tmps.getD 34 undef = .bool true := dep_of (V := (VQ4 A i s leaf root n1 ad n cap B m ps)) hdep 22 34 (by kernel_rfl) (by kernel_rfl)
        clear hdep hsame hi
        exact ⟨wanted_of 22 rfl eg (by kernel_rfl), shows_run rfl (.pointer (some ⟨n1, 66, none⟩)) (by simp only [execOp, Act.eval]; go_simp) (Below.refl _ _) rfl⟩
      | 25, hi =>
        cases (show some _ = some o from hi)
        have e36 : f.tmps.getD 36 undef = .pointer (some ⟨n1, 66, none⟩) := dep_of (V := (VQ4 A i s leaf root n1 ad n cap B m ps)) hdep 24 36 (by kernel_rfl) (by kernel_rfl)
        have eg : f.tmps.getD 34 undef = .bool true := dep_of (V := (VQ4 A i s leaf root n1 ad n cap B m ps)) hdep 22 34 (by kernel_rfl) (by kernel_rfl)
        clear hdep hsame hi
        have hc := hp.cellL
        exact ⟨wanted_of 22 rfl eg (by kernel_rfl), shows_run rfl (.slice ad n cap) (by simp only [execOp, Act.eval]; go_simp) (Below.refl _ _) rfl⟩
      | 26, hi =>
        cases (show some _ = some o from hi)
        have e35 : f.tmps.getD 35 undef = .slice (some ⟨B, 0, none⟩) m (m + 1) := dep_of (V := (VQ4 A i s leaf root n1 ad n cap B m ps)) hdep 23 35 (by kernel_rfl) (by kernel_rfl)
        have e37 : f.tmps.getD 37 undef = .slice ad n cap := dep_of (V := (VQ4 A i s leaf root n1 ad n cap B m ps)) hdep 25 37 (by kernel_rfl) (by kernel_rfl)
        have eg : f.tmps.getD 34 undef = .bool true := dep_of (V := (VQ4 A i s leaf root n1 ad n cap B m ps)) hdep 22 34 (by kernel_rfl) (by kernel_rfl)
        clear hdep hsame hi
        have c := left_any u _ ps ad n cap ht hh HM.out
        exact ⟨wanted_of 22 rfl eg (by kernel_rfl), shows_call rfl 13 #[.slice (some ⟨B, 0, none⟩) m (m + 1), .slice ad n cap] (by simp only [execOp, Act.eval]; go_simp) (c) (fun _ => rfl)⟩
      | 27, hi =>
        cases (show some _ = some o from hi)
        have e34 : f.tmps.getD 34 undef = .bool true := dep_of (V := (VQ4 A i s leaf root n1 ad n cap B m ps)) hdep 22 34 (by kernel_rfl) (by kernel_rfl)
        have e38 : f.tmps.getD 38 undef = .bool true := dep_of (V := (VQ4 A i s leaf root n1 ad n cap B m ps)) hdep 26 38 (by kernel_rfl) (by kernel_rfl)
        clear hdep hsame hi
        exact ⟨wanted_none rfl, shows_run rfl (.bool true) (by simp only [execOp, Act.eval]; go_simp) (Below.refl _ _) rfl⟩
      | 28, hi =>
        cases (show some _ = some o from hi)
        have e39 : f.tmps.getD 39 undef = .bool true := dep_of (V := (VQ4 A i s leaf root n1 ad n cap B m ps)) hdep 27 39 (by kernel_rfl) (by kernel_rfl)
        clear hdep hsame hi
        exact ⟨wanted_none rfl, shows_move rfl _ rfl e39⟩
      | 29, hi =>
        cases (show some _ = some o from hi)
        have eg : f.tmps.getD 40 undef = .bool true := dep_of (V := (VQ4 A i s leaf root n1 ad n cap B m ps)) hdep 28 40 (by kernel_rfl) (by kernel_rfl)
        clear hdep hsame hi
        have c := alive_any A u hu
        exact ⟨wanted_of 28 rfl eg (by kernel_rfl), shows_call rfl 16 #[] (by simp only [execOp, Act.eval]; go_simp) (c) (fun _ => rfl)⟩
      | 30, hi =>
        cases (show some _ = some o from hi)
        have e40 : f.tmps.getD 40 undef = .bool true := dep_of (V := (VQ4 A i s leaf root n1 ad n cap B m ps)) hdep 28 40 (by kernel_rfl) (by kernel_rfl)
        have e41 : f.tmps.getD 41 undef = .bool true := dep_of (V := (VQ4 A i s leaf root n1 ad n cap B m ps)) hdep 29 41 (by kernel_rfl) (by kernel_rfl)
        clear hdep hsame hi
        exact ⟨wanted_none rfl, shows_run rfl (.bool true) (by simp only [execOp, Act.eval]; go_simp) (Below.refl _ _) rfl⟩
      | 31, hi =>
        cases (show some _ = some o from hi)
        have e42 : f.tmps.getD 42 undef = .bool true := dep_of (V := (VQ4 A i s leaf root n1 ad n cap B m ps)) hdep 30 42 (by kernel_rfl) (by kernel_rfl)
        clear hdep hsame hi
        exact ⟨wanted_none rfl, shows_assign rfl _ rfl e42⟩
      | n + 32, hi => exact absurd hi (by simp)
    · intro f u hsame hbel hall
      have e0 : f.tmps.getD 2 undef = .bool true := hall 31 _ 2 rfl rfl
      have hd : f.defers = [] := hsame.defers
      refine ‹∀ (a : Act) (w : World), Code.wp _ Code.ret _ a w → _› f u ?_
      exact wp_ret (bodyPost_ret (results_tmp rfl _ _ _) hd ⟨by rw [e0], KB.out.trans (hbel.mono KB.out.size)⟩)
end Go.Proofs.YtmlpldkgennmkaaDoor
