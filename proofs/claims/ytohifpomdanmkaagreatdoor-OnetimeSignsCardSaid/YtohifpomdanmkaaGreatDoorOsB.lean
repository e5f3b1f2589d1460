/- The document's beginning of a chain. -/
import Derived.Test.YtohifpomdanmkaaGreatDoorRva
import Derived.Test.YtohifpomdanmkaaGreatDoorOrc
namespace Go.Proofs.YtohifpomdanmkaaGreatDoor
set_option maxRecDepth 100000
open Go.RowKit
theorem sbA (x y : ByteArray) : sb (x ++ y) = sb x ++ sb y := by simp [sb]
def VBR (N i : Nat) (s : List UInt8) (x1 x2 : ByteArray) (oi : Nat) (v : Value) (own : Nat → Option Nat) (w : World) : Prop :=
  match oi with
  | 0 => v = .agg (ocells (s))
  | 1 => v = .string (bstr s)
  | 2 => v = .string x1
  | 3 => v = .int .i64 (i : Int)
  | 4 => v = .int .i64 (((i / 256 : Nat)) : Int)
  | 5 => v = .int .u8 ((UInt8.ofNat (i / 256)).toNat : Int)
  | 6 => v = .int .i64 (i : Int)
  | 7 => v = .int .i64 (((i % 256 : Nat)) : Int)
  | 8 => v = .int .u8 ((UInt8.ofNat i).toNat : Int)
  | 9 => FreeB own w v [UInt8.ofNat (i / 256), UInt8.ofNat i]
  | 10 => v = .string (bstr [UInt8.ofNat (i / 256), UInt8.ofNat i])
  | 11 => v = .string x2
  | 12 => v = .agg (ocells (beginB s i))
  | 13 => OutV own w (N + 1) 13 23 (ocells (beginB s i))
  | _ => True
def VBRmk : Nat → Option Nat := fun _ => none
theorem VBR_mono (N i : Nat) (s : List UInt8) (x1 x2 : ByteArray) (oi oj : Nat) (v : Value) (own : Nat → Option Nat) (w : World) (own' : Nat → Option Nat) (w' : World) (hij : oi ≠ oj) (h : VBR N i s x1 x2 oj v own w) (r : Rel VBRmk oi own w own' w') : VBR N i s x1 x2 oj v own' w' := by
  unfold VBR at h ⊢
  split at h
  · exact h
  · exact h
  · exact h
  · exact h
  · exact h
  · exact h
  · exact h
  · exact h
  · exact h
  · exact h.stable r
  · exact h
  · exact h
  · exact h
  · exact h.stable r hij
  · trivial

set_option maxHeartbeats 3200000 in
theorem rbegin_any (w : World) (s : List UInt8) (hs : s.length = 32) (i : Nat) (hi : i < 67) :
    Calls Tryz.prog 13 #[hv s, .int .i64 (i : Int)] w fun e w' => e = .returned (hv (beginB s i)) ∧ Below w.heap.size w w' := by
  have x0 := (HashAt.new w s hs).below (er_al (Below.refl _ _) (.cells zeros32 23))
  have x1 : ((w.alloc (.cells (ocells s) 23)).alloc (.cells zeros32 23)).heap[w.heap.size + 1]? = some (.cells zeros32 23 (0, 0)) := by
    simpa using heap_alloc_new (w.alloc (.cells (ocells s) 23)) (.cells zeros32 23)
  have kb : Below w.heap.size w ((w.alloc (.cells (ocells s) 23)).alloc (.cells zeros32 23)) := er_al (er_al (Below.refl _ _) _) _
  have wsz : ((w.alloc (.cells (ocells s) 23)).alloc (.cells zeros32 23)).heap.size = w.heap.size + 2 := by simp
  have w1 : IntKind.u8.wrap ((i / 256 : Nat) : Int) = ((UInt8.ofNat (i / 256)).toNat : Int) := by
    rw [UInt8.toNat_ofNat']; simp [IntKind.wrap, IntKind.bits, IntKind.signed]
  have w2 : IntKind.u8.wrap ((i % 256 : Nat) : Int) = ((UInt8.ofNat i).toNat : Int) := by
    rw [UInt8.toNat_ofNat']; simp [IntKind.wrap, IntKind.bits, IntKind.signed]
  obtain ⟨x1', hx1⟩ : ∃ x, x = ((⟨#[3]⟩ : ByteArray) ++ bstr s) := ⟨_, rfl⟩
  obtain ⟨x2', hx2⟩ : ∃ x, x = x1' ++ bstr [UInt8.ofNat (i / 256), UInt8.ofNat i] := ⟨_, rfl⟩
  have hb32 : (bstr s).size = 32 := by simp [bstr, ByteArray.size, hs]
  have HZ4 : Bx ((bstr [UInt8.ofNat (i / 256), UInt8.ofNat i]).size = 2) := ⟨by simp [bstr, ByteArray.size]⟩
  have hz1 : x1'.size = 33 := by rw [hx1, ByteArray.size_append, hb32]; rfl
  have hz2 : x2'.size = 35 := by rw [hx2, ByteArray.size_append, hz1]; rfl
  have hx3 : sha (sb x2') = beginB s i := by rw [hx2, hx1, sbA, sbA, sb_bstr, sb_bstr]; rfl
  have HX1 := Bx.mk hx1.symm; have HX2 := Bx.mk hx2.symm; have HX3 := Bx.mk hx3
  have HZ1 := Bx.mk hb32; have HZ2 := Bx.mk hz1; have HZ3 := Bx.mk (show x2'.size < 70368744177664 by omega)
  have SL := Bx.mk hs; have HI := Bx.mk hi; have W1 := Bx.mk w1; have W2 := Bx.mk w2
  clear hs w1 w2 hx1 hx2 hx3 hb32 hz1 hz2
  unfold hv
  go_enter Tryz.func13, Tryz.ntmps13
  go_upto_region 1 with (fail)
  change Code.wp _ _ _ _ ((w.alloc (.cells (ocells s) 23)).alloc (.cells zeros32 23))
  generalize (w.alloc (.cells (ocells s) 23)).alloc (.cells zeros32 23) = W at x0 x1 kb wsz ⊢
  obtain ⟨N, hN⟩ : ∃ N, N = w.heap.size := ⟨_, rfl⟩
  rw [← hN] at x0 x1 wsz ⊢
  have X0 := Bx.mk x0; have X1 := Bx.mk x1; have KB := Bx.mk kb; have WS := Bx.mk wsz; have HN := Bx.mk hN
  clear x0 x1 kb wsz hN
  refine wp_region_own (n := 18) VBRmk (fun k => if k = N + 1 then some 13 else none) (VBR N i s x1' x2') (by kernel_rfl) (by kernel_rfl) rfl ?_ ?_ (VBR_mono N i s x1' x2') ?_ ?_
  · exact fun k hk => if_neg (by have := WS.out; omega)
  · exact fun j i h => by cases h
  · intro oi o hi f u own hsame hsn hfr hdep
    have hx0 := (hsn.keep N X0.out.lt (if_neg (by omega))).trans X0.out.1
    match oi, hi with
    | 0, hi =>
      cases (show some _ = some o from hi)
      have e2 : f.tmps.getD 2 undef = .pointer (some ⟨N, 0, none⟩) := hsame.slot 2 (fun i o h => invB2_not 2 (by kernel_rfl) h)
      clear hdep hsame hi hfr
      exact ⟨wanted_none rfl, showsO_row hsn rfl 23 (.tmp 2) rfl N e2 (ocells (s)) hx0 underH rfl (hszL SL.out) rfl⟩
    | 1, hi =>
      cases (show some _ = some o from hi)
      have e5 : f.tmps.getD 5 undef = .agg (ocells (s)) := depO (V := (VBR N i s x1' x2')) hdep 0 5 (by kernel_rfl) (by kernel_rfl)
      clear hdep hsame hi hfr
      have c := rb22_any u s SL.out
      rw [hv_agg] at c
      exact ⟨wanted_none rfl, showsO_call1 hsn rfl 69 #[.agg (ocells (s))] (by simp only [execOp, Act.eval]; go_simp) (c) (fun _ => rfl)⟩
    | 2, hi =>
      cases (show some _ = some o from hi)
      have e6 : f.tmps.getD 6 undef = .string (bstr s) := depO (V := (VBR N i s x1' x2')) hdep 1 6 (by kernel_rfl) (by kernel_rfl)
      clear hdep hsame hi hfr
      have eq6 : f.tmps[6]?.getD undef = .string (bstr s) := by simpa using e6
      have hx := HX1.out
      have hsz := HZ1.out
      exact ⟨wanted_none rfl, showsO_pure hsn rfl (.string x1') (by simp only [execOp, Act.eval]; go_simp; try rw [hx]) rfl⟩
    | 3, hi =>
      cases (show some _ = some o from hi)
      have e1 : f.tmps.getD 1 undef = .int .i64 (i : Int) := hsame.slot 1 (fun i o h => invB2_not 1 (by kernel_rfl) h)
      clear hdep hsame hi hfr
      exact ⟨wanted_none rfl, showsO_move hsn rfl _ rfl e1⟩
    | 4, hi =>
      cases (show some _ = some o from hi)
      have e8 : f.tmps.getD 8 undef = .int .i64 (i : Int) := depO (V := (VBR N i s x1' x2')) hdep 3 8 (by kernel_rfl) (by kernel_rfl)
      clear hdep hsame hi hfr
      have hi := HI.out
      exact ⟨wanted_none rfl, showsO_pure hsn rfl (.int .i64 ((i / 256 : Nat) : Int)) (by simp only [execOp, Act.eval]; go_simp; simp [IntKind.wrap, IntKind.bits, IntKind.signed]; omega) rfl⟩
    | 5, hi =>
      cases (show some _ = some o from hi)
      have e9 : f.tmps.getD 9 undef = .int .i64 (((i / 256 : Nat)) : Int) := depO (V := (VBR N i s x1' x2')) hdep 4 9 (by kernel_rfl) (by kernel_rfl)
      clear hdep hsame hi hfr
      have hw := W1.out
      exact ⟨wanted_none rfl, showsO_pure hsn rfl (.int .u8 ((UInt8.ofNat (i / 256)).toNat : Int)) (by simp only [execOp, Act.eval]; go_simp; first | exact hw | skip) rfl⟩
    | 6, hi =>
      cases (show some _ = some o from hi)
      have e1 : f.tmps.getD 1 undef = .int .i64 (i : Int) := hsame.slot 1 (fun i o h => invB2_not 1 (by kernel_rfl) h)
      clear hdep hsame hi hfr
      exact ⟨wanted_none rfl, showsO_move hsn rfl _ rfl e1⟩
    | 7, hi =>
      cases (show some _ = some o from hi)
      have e11 : f.tmps.getD 11 undef = .int .i64 (i : Int) := depO (V := (VBR N i s x1' x2')) hdep 6 11 (by kernel_rfl) (by kernel_rfl)
      clear hdep hsame hi hfr
      have hi := HI.out
      exact ⟨wanted_none rfl, showsO_pure hsn rfl (.int .i64 ((i % 256 : Nat) : Int)) (by simp only [execOp, Act.eval]; go_simp; exact Int.tmod_eq_emod_of_nonneg (by omega)) rfl⟩
    | 8, hi =>
      cases (show some _ = some o from hi)
      have e12 : f.tmps.getD 12 undef = .int .i64 (((i % 256 : Nat)) : Int) := depO (V := (VBR N i s x1' x2')) hdep 7 12 (by kernel_rfl) (by kernel_rfl)
      clear hdep hsame hi hfr
      have hw := W2.out
      exact ⟨wanted_none rfl, showsO_pure hsn rfl (.int .u8 ((UInt8.ofNat i).toNat : Int)) (by simp only [execOp, Act.eval]; go_simp; first | exact hw | skip) rfl⟩
    | 9, hi =>
      cases (show some _ = some o from hi)
      have e10 : f.tmps.getD 10 undef = .int .u8 ((UInt8.ofNat (i / 256)).toNat : Int) := depO (V := (VBR N i s x1' x2')) hdep 5 10 (by kernel_rfl) (by kernel_rfl)
      have e13 : f.tmps.getD 13 undef = .int .u8 ((UInt8.ofNat i).toNat : Int) := depO (V := (VBR N i s x1' x2')) hdep 8 13 (by kernel_rfl) (by kernel_rfl)
      clear hdep hsame hi hfr
      have eq10 : f.tmps[10]?.getD undef = .int .u8 ((UInt8.ofNat (i / 256)).toNat : Int) := by simpa using e10
      have eq13 : f.tmps[13]?.getD undef = .int .u8 ((UInt8.ofNat i).toNat : Int) := by simpa using e13
      exact ⟨wanted_none rfl, showsO_run rfl (.slice (some ⟨u.heap.size, 0, none⟩) 2 2) (w' := u.alloc (.cells (ocells [UInt8.ofNat (i / 256), UInt8.ofNat i]) 5)) (by simp only [execOp, Act.eval]; go_simp; rfl) own (Rel.below VBRmk 9 hsn (er_al (Below.refl _ _) _)) ⟨_, rfl, hsn.top _ (Nat.le_refl _), heap_alloc_new _ _⟩⟩
    | 10, hi =>
      cases (show some _ = some o from hi)
      have e14 : FreeB own u (f.tmps.getD 14 undef) [UInt8.ofNat (i / 256), UInt8.ofNat i] := depO (V := (VBR N i s x1' x2')) hdep 9 14 (by kernel_rfl) (by kernel_rfl)
      clear hdep hsame hi hfr
      obtain ⟨g, e14, hg1, hg2⟩ := e14
      have q : (convert 59 9 (.slice (some ⟨g, 0, none⟩) 2 2)).run Tryz.prog u = .ok (.string (bstr [UInt8.ofNat (i / 256), UInt8.ofNat i])) u := str_of hg2
      exact ⟨wanted_none rfl, showsO_run rfl (.string (bstr [UInt8.ofNat (i / 256), UInt8.ofNat i])) (by simp only [execOp, Act.eval]; go_simp) own (Rel.same VBRmk 10 hsn) rfl⟩
    | 11, hi =>
      cases (show some _ = some o from hi)
      have e7 : f.tmps.getD 7 undef = .string x1' := depO (V := (VBR N i s x1' x2')) hdep 2 7 (by kernel_rfl) (by kernel_rfl)
      have e15 : f.tmps.getD 15 undef = .string (bstr [UInt8.ofNat (i / 256), UInt8.ofNat i]) := depO (V := (VBR N i s x1' x2')) hdep 10 15 (by kernel_rfl) (by kernel_rfl)
      clear hdep hsame hi hfr
      have eq7 : f.tmps[7]?.getD undef = .string x1' := by simpa using e7
      have eq15 : f.tmps[15]?.getD undef = .string (bstr [UInt8.ofNat (i / 256), UInt8.ofNat i]) := by simpa using e15
      have hx := HX2.out
      have hsz := HZ2.out
      have hs2 := HZ4.out
      exact ⟨wanted_none rfl, showsO_pure hsn rfl (.string x2') (by simp only [execOp, Act.eval]; go_simp; try rw [hx]) rfl⟩
    | 12, hi =>
      cases (show some _ = some o from hi)
      have e16 : f.tmps.getD 16 undef = .string x2' := depO (V := (VBR N i s x1' x2')) hdep 11 16 (by kernel_rfl) (by kernel_rfl)
      clear hdep hsame hi hfr
      have c := rsum_any u x2' HZ3.out
      rw [HX3.out, hv_agg] at c
      exact ⟨wanted_none rfl, showsO_call1 hsn rfl 68 #[.string x2'] (by simp only [execOp, Act.eval]; go_simp) (c) (fun _ => rfl)⟩
    | 13, hi =>
      cases (show some _ = some o from hi)
      have e4 : f.tmps.getD 4 undef = .pointer (some ⟨N + 1, 0, none⟩) := hsame.slot 4 (fun i o h => invB2_not 4 (by kernel_rfl) h)
      have e17 : f.tmps.getD 17 undef = .agg (ocells (beginB s i)) := depO (V := (VBR N i s x1' x2')) hdep 12 17 (by kernel_rfl) (by kernel_rfl)
      clear hdep hsame hi hfr
      exact ⟨wanted_none rfl, showsO_store_out hsn rfl 23 (.tmp 4) (.tmp 17) rfl (N + 1) e4 X1.out (if_pos rfl) (ocells (beginB s i)) e17 (hszL (sha_length _)) (hsoL (sha_length _)) (ocells_one _) (fun _ h => h)⟩
    | n + 14, hi => exact absurd hi (by simp)
  · intro f u own hsame hsn hall
    have hb := hsn.below (B := N + 1) (fun k hk => if_neg (by omega)) (by have := WS.out; omega)
    have hbw := bgb HN.out KB.out hb
    have hout : OutV own u (N + 1) 13 23 (ocells (beginB s i)) := finN (V := (VBR N i s x1' x2')) hall 13 rfl
    have h4 : f.tmps.getD 4 undef = .pointer (some ⟨N + 1, 0, none⟩) := hsame.slot 4 (fun i o h => invB2_not 4 (by kernel_rfl) h)
    have hd : f.defers = [] := hsame.defers
    clear hall hsame hsn hb
    refine ‹∀ (a : Act) (w : World), Code.wp _ Code.ret _ a w → _› f u ?_
    exact wp_ret (bodyPost_ret (results_cell_row rfl _ _ (N + 1) _ (ocells (beginB s i)) _ _ h4 hout.2 underH rfl (hszL (sha_length _))) hd ⟨rfl, hbw⟩)
end Go.Proofs.YtohifpomdanmkaaGreatDoor
