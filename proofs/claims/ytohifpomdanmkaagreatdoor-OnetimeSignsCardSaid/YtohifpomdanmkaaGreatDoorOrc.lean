/- onetime.begin: the beginning of a chain. -/
import Derived.Test.YtohifpomdanmkaaGreatDoorOrb
namespace Go.Proofs.YtohifpomdanmkaaGreatDoor
set_option maxRecDepth 100000
open Go.RowKit
/-- the beginning of a chain of a secret -/
def beginB (s : List UInt8) (i : Nat) : List UInt8 := sha (3 :: (s ++ [UInt8.ofNat (i / 256), UInt8.ofNat i]))
/-- bytes in a block of the region's own that nothing writes -/
def FreeB (own : Nat → Option Nat) (w : World) (v : Value) (l : List UInt8) : Prop := ∃ g, v = .slice (some ⟨g, 0, none⟩) l.length l.length ∧ own g = none ∧ w.heap[g]? = some (.cells (ocells l) 5 (0, 0))
theorem FreeB.stable {mk own own' : Nat → Option Nat} {w w' : World} {i : Nat} {v : Value} {l : List UInt8} (h : FreeB own w v l) (r : Rel mk i own w own' w') : FreeB own' w' v l := by
  obtain ⟨g, e, h1, h3⟩ := h
  have hg := (Array.getElem?_eq_some_iff.1 h3).1
  exact ⟨g, e, (r.owns g hg).trans h1, (r.keep g hg (by rw [h1]; simp)).trans h3⟩
/-- three texts in a block of the region's own that nothing writes -/
def FreeT (own : Nat → Option Nat) (w : World) (v : Value) (x y z : ByteArray) : Prop := ∃ g, v = .slice (some ⟨g, 0, none⟩) 3 3 ∧ own g = none ∧ w.heap[g]? = some (.cells #[.string x, .string y, .string z] 9 (0, 0))
theorem FreeT.stable {mk own own' : Nat → Option Nat} {w w' : World} {i : Nat} {v : Value} {x y z : ByteArray} (h : FreeT own w v x y z) (r : Rel mk i own w own' w') : FreeT own' w' v x y z := by
  obtain ⟨g, e, h1, h3⟩ := h
  have hg := (Array.getElem?_eq_some_iff.1 h3).1
  exact ⟨g, e, (r.owns g hg).trans h1, (r.keep g hg (by rw [h1]; simp)).trans h3⟩
theorem strs_at {w : World} {g : Nat} {x y z : ByteArray} {fr : Nat × Nat} (h : w.heap[g]? = some (.cells #[.string x, .string y, .string z] 9 fr)) : Strs w (.slice (some ⟨g, 0, none⟩) 3 3) [x, y, z] :=
  ⟨_, 3, rfl, Nat.le_refl _, by simp [maxLen], fun _ => ⟨g, 0, rfl, (Array.getElem?_eq_some_iff.1 h).1, fun i hi => er_cellAt h _ _ (by
    match i, hi with
    | 0, _ => rfl
    | 1, _ => rfl
    | 2, _ => rfl
    | n + 3, h => exact absurd h (by simp))⟩⟩
theorem str_of {w : World} {B : Nat} {l : List UInt8} {T : TypeId} {fr : Nat × Nat} (h : w.heap[B]? = some (.cells (ocells l) T fr)) :
    (convert 59 9 (.slice (some ⟨B, 0, none⟩) l.length l.length)).run Tryz.prog w = .ok (.string (bstr l)) w := by
  rw [run_convert_bytes_arg w 59 5 underB (by kernel_rfl) B 0 l.length l.length (l.map fun b => (b.toNat : Int)) (by simp) (fun i hi => by
    rw [Nat.zero_add]
    refine er_cellAt h i _ ?_
    simp [ocells, bcells, bcell, List.getD, hi]) 9 (by kernel_rfl)]
  congr 2
  unfold strOfNums bstr
  congr 1
  simp [List.map_map, Function.comp_def]
theorem bgb {N : Nat} {w W u : World} (hN : N = w.heap.size) (kb : Below w.heap.size w W) (hb : Below (N + 1) W u) : Below w.heap.size w u := by
  subst hN
  exact kb.trans (hb.mono (Nat.le_succ _))
def VBG (N i : Nat) (s : List UInt8) (oi : Nat) (v : Value) (own : Nat → Option Nat) (w : World) : Prop :=
  match oi with
  | 0 => v = .slice (some ⟨N, 0, none⟩) 32 32
  | 1 => v = .string (bstr s)
  | 2 => v = .int .i64 (i : Int)
  | 3 => v = .int .i64 (((i / 256 : Nat)) : Int)
  | 4 => v = .int .u8 ((UInt8.ofNat (i / 256)).toNat : Int)
  | 5 => v = .int .i64 (i : Int)
  | 6 => v = .int .u8 ((UInt8.ofNat i).toNat : Int)
  | 7 => FreeB own w v [UInt8.ofNat (i / 256), UInt8.ofNat i]
  | 8 => v = .string (bstr [UInt8.ofNat (i / 256), UInt8.ofNat i])
  | 9 => FreeT own w v ⟨#[3]⟩ (bstr s) (bstr [UInt8.ofNat (i / 256), UInt8.ofNat i])
  | 10 => v = .agg (ocells (beginB s i))
  | 11 => OutV own w (N + 1) 11 23 (ocells (beginB s i))
  | _ => True
def VBGmk : Nat → Option Nat := fun _ => none
theorem VBG_mono (N i : Nat) (s : List UInt8) (oi oj : Nat) (v : Value) (own : Nat → Option Nat) (w : World) (own' : Nat → Option Nat) (w' : World) (hij : oi ≠ oj) (h : VBG N i s oj v own w) (r : Rel VBGmk oi own w own' w') : VBG N i s oj v own' w' := by
  unfold VBG at h ⊢
  split at h
  · exact h
  · exact h
  · exact h
  · exact h
  · exact h
  · exact h
  · exact h
  · exact h.stable r
  · exact h
  · exact h.stable r
  · exact h
  · exact h.stable r hij
  · trivial

set_option maxHeartbeats 3200000 in
theorem begin_any (w : World) (s : List UInt8) (hs : s.length = 32) (i : Nat) (hi : i < 67) (hT : TabS w) :
    Calls Tryz.prog 16 #[hv s, .int .i64 (i : Int)] w fun e w' => e = .returned (hv (beginB s i)) ∧ Below w.heap.size w w' := by
  have x0 := (HashAt.new w s hs).below (er_al (Below.refl _ _) (.cells zeros32 23))
  have x1 : ((w.alloc (.cells (ocells s) 23)).alloc (.cells zeros32 23)).heap[w.heap.size + 1]? = some (.cells zeros32 23 (0, 0)) := by
    simpa using heap_alloc_new (w.alloc (.cells (ocells s) 23)) (.cells zeros32 23)
  have kb : Below w.heap.size w ((w.alloc (.cells (ocells s) 23)).alloc (.cells zeros32 23)) := er_al (er_al (Below.refl _ _) _) _
  have wsz : ((w.alloc (.cells (ocells s) 23)).alloc (.cells zeros32 23)).heap.size = w.heap.size + 2 := by simp
  have w1 : IntKind.u8.wrap ((i / 256 : Nat) : Int) = ((UInt8.ofNat (i / 256)).toNat : Int) := by
    rw [UInt8.toNat_ofNat']; simp [IntKind.wrap, IntKind.bits, IntKind.signed]
  have w2 : IntKind.u8.wrap (i : Int) = ((UInt8.ofNat i).toNat : Int) := by
    rw [UInt8.toNat_ofNat']; simp [IntKind.wrap, IntKind.bits, IntKind.signed]
  have SL := Bx.mk hs; have HT := Bx.mk hT; have HI := Bx.mk hi; have W1 := Bx.mk w1; have W2 := Bx.mk w2
  clear hs hT w1 w2
  unfold hv
  go_enter Tryz.func16, Tryz.ntmps16
  go_upto_region 1 with (fail)
  change Code.wp _ _ _ _ ((w.alloc (.cells (ocells s) 23)).alloc (.cells zeros32 23))
  generalize (w.alloc (.cells (ocells s) 23)).alloc (.cells zeros32 23) = W at x0 x1 kb wsz ⊢
  obtain ⟨N, hN⟩ : ∃ N, N = w.heap.size := ⟨_, rfl⟩
  rw [← hN] at x0 x1 wsz ⊢
  have X0 := Bx.mk x0; have X1 := Bx.mk x1; have KB := Bx.mk kb; have WS := Bx.mk wsz; have HN := Bx.mk hN
  clear x0 x1 kb wsz hN
  refine wp_region_own (n := 16) VBGmk (fun k => if k = N + 1 then some 11 else none) (VBG N i s) (by kernel_rfl) (by kernel_rfl) rfl ?_ ?_ (VBG_mono N i s) ?_ ?_
  · exact fun k hk => if_neg (by have := WS.out; omega)
  · exact fun j i h => by cases h
  · intro oi o hi f u own hsame hsn hfr hdep
    have hx0 := (hsn.keep N X0.out.lt (if_neg (by omega))).trans X0.out.1
    have hb := hsn.below (B := N + 1) (fun k hk => if_neg (by omega)) (by have := WS.out; omega)
    have ht := HT.out.below (bgb HN.out KB.out hb)
    match oi, hi with
    | 0, hi =>
      cases (show some _ = some o from hi)
      have e2 : f.tmps.getD 2 undef = .pointer (some ⟨N, 0, none⟩) := hsame.slot 2 (fun i o h => invB2_not 2 (by kernel_rfl) h)
      clear hdep hsame hi hfr
      exact ⟨wanted_none rfl, showsO_pure hsn rfl (.slice (some ⟨N, 0, none⟩) 32 32) (by simp only [execOp, Act.eval]; go_simp) rfl⟩
    | 1, hi =>
      cases (show some _ = some o from hi)
      have e5 : f.tmps.getD 5 undef = .slice (some ⟨N, 0, none⟩) 32 32 := depO (V := (VBG N i s)) hdep 0 5 (by kernel_rfl) (by kernel_rfl)
      clear hdep hsame hi hfr
      have q := str_row hx0 SL.out
      exact ⟨wanted_none rfl, showsO_run rfl (.string (bstr s)) (by simp only [execOp, Act.eval]; go_simp) own (Rel.same VBGmk 1 hsn) rfl⟩
    | 2, hi =>
      cases (show some _ = some o from hi)
      have e1 : f.tmps.getD 1 undef = .int .i64 (i : Int) := hsame.slot 1 (fun i o h => invB2_not 1 (by kernel_rfl) h)
      clear hdep hsame hi hfr
      exact ⟨wanted_none rfl, showsO_move hsn rfl _ rfl e1⟩
    | 3, hi =>
      cases (show some _ = some o from hi)
      have e7 : f.tmps.getD 7 undef = .int .i64 (i : Int) := depO (V := (VBG N i s)) hdep 2 7 (by kernel_rfl) (by kernel_rfl)
      clear hdep hsame hi hfr
      exact ⟨wanted_none rfl, showsO_pure hsn rfl (.int .i64 (((i / 256 : Nat)) : Int)) (by simp only [execOp, Act.eval]; go_simp) rfl⟩
    | 4, hi =>
      cases (show some _ = some o from hi)
      have e8 : f.tmps.getD 8 undef = .int .i64 (((i / 256 : Nat)) : Int) := depO (V := (VBG N i s)) hdep 3 8 (by kernel_rfl) (by kernel_rfl)
      clear hdep hsame hi hfr
      have hw := W1.out
      exact ⟨wanted_none rfl, showsO_pure hsn rfl (.int .u8 ((UInt8.ofNat (i / 256)).toNat : Int)) (by simp only [execOp, Act.eval]; go_simp; first | exact hw | skip) rfl⟩
    | 5, hi =>
      cases (show some _ = some o from hi)
      have e1 : f.tmps.getD 1 undef = .int .i64 (i : Int) := hsame.slot 1 (fun i o h => invB2_not 1 (by kernel_rfl) h)
      clear hdep hsame hi hfr
      exact ⟨wanted_none rfl, showsO_move hsn rfl _ rfl e1⟩
    | 6, hi =>
      cases (show some _ = some o from hi)
      have e10 : f.tmps.getD 10 undef = .int .i64 (i : Int) := depO (V := (VBG N i s)) hdep 5 10 (by kernel_rfl) (by kernel_rfl)
      clear hdep hsame hi hfr
      have hw := W2.out
      exact ⟨wanted_none rfl, showsO_pure hsn rfl (.int .u8 ((UInt8.ofNat i).toNat : Int)) (by simp only [execOp, Act.eval]; go_simp; first | exact hw | skip) rfl⟩
    | 7, hi =>
      cases (show some _ = some o from hi)
      have e9 : f.tmps.getD 9 undef = .int .u8 ((UInt8.ofNat (i / 256)).toNat : Int) := depO (V := (VBG N i s)) hdep 4 9 (by kernel_rfl) (by kernel_rfl)
      have e11 : f.tmps.getD 11 undef = .int .u8 ((UInt8.ofNat i).toNat : Int) := depO (V := (VBG N i s)) hdep 6 11 (by kernel_rfl) (by kernel_rfl)
      clear hdep hsame hi hfr
      have eq9 : f.tmps[9]?.getD undef = .int .u8 ((UInt8.ofNat (i / 256)).toNat : Int) := by simpa using e9
      have eq11 : f.tmps[11]?.getD undef = .int .u8 ((UInt8.ofNat i).toNat : Int) := by simpa using e11
      exact ⟨wanted_none rfl, showsO_run rfl (.slice (some ⟨u.heap.size, 0, none⟩) 2 2) (w' := u.alloc (.cells (ocells [UInt8.ofNat (i / 256), UInt8.ofNat i]) 5)) (by simp only [execOp, Act.eval]; go_simp; rfl) own (Rel.below VBGmk 7 hsn (er_al (Below.refl _ _) _)) ⟨_, rfl, hsn.top _ (Nat.le_refl _), heap_alloc_new _ _⟩⟩
    | 8, hi =>
      cases (show some _ = some o from hi)
      have e12 : FreeB own u (f.tmps.getD 12 undef) [UInt8.ofNat (i / 256), UInt8.ofNat i] := depO (V := (VBG N i s)) hdep 7 12 (by kernel_rfl) (by kernel_rfl)
      clear hdep hsame hi hfr
      obtain ⟨g, e12, hg1, hg2⟩ := e12
      have q : (convert 59 9 (.slice (some ⟨g, 0, none⟩) 2 2)).run Tryz.prog u = .ok (.string (bstr [UInt8.ofNat (i / 256), UInt8.ofNat i])) u := str_of hg2
      exact ⟨wanted_none rfl, showsO_run rfl (.string (bstr [UInt8.ofNat (i / 256), UInt8.ofNat i])) (by simp only [execOp, Act.eval]; go_simp) own (Rel.same VBGmk 8 hsn) rfl⟩
    | 9, hi =>
      cases (show some _ = some o from hi)
      have e6 : f.tmps.getD 6 undef = .string (bstr s) := depO (V := (VBG N i s)) hdep 1 6 (by kernel_rfl) (by kernel_rfl)
      have e13 : f.tmps.getD 13 undef = .string (bstr [UInt8.ofNat (i / 256), UInt8.ofNat i]) := depO (V := (VBG N i s)) hdep 8 13 (by kernel_rfl) (by kernel_rfl)
      clear hdep hsame hi hfr
      have eq6 : f.tmps[6]?.getD undef = .string (bstr s) := by simpa using e6
      have eq13 : f.tmps[13]?.getD undef = .string (bstr [UInt8.ofNat (i / 256), UInt8.ofNat i]) := by simpa using e13
      exact ⟨wanted_none rfl, showsO_run rfl (.slice (some ⟨u.heap.size, 0, none⟩) 3 3) (w' := u.alloc (.cells #[.string ⟨#[3]⟩, .string (bstr s), .string (bstr [UInt8.ofNat (i / 256), UInt8.ofNat i])] 9)) (by simp only [execOp, Act.eval]; go_simp) own (Rel.below VBGmk 9 hsn (er_al (Below.refl _ _) _)) ⟨_, rfl, hsn.top _ (Nat.le_refl _), heap_alloc_new _ _⟩⟩
    | 10, hi =>
      cases (show some _ = some o from hi)
      have e14 : FreeT own u (f.tmps.getD 14 undef) ⟨#[3]⟩ (bstr s) (bstr [UInt8.ofNat (i / 256), UInt8.ofNat i]) := depO (V := (VBG N i s)) hdep 9 14 (by kernel_rfl) (by kernel_rfl)
      clear hdep hsame hi hfr
      obtain ⟨g, e14, hg1, hg2⟩ := e14
      have c := sum_any u _ [⟨#[3]⟩, bstr s, bstr [UInt8.ofNat (i / 256), UInt8.ofNat i]] (strs_at hg2) ht.tab ht.lt (by rw [cat_three]; simp [SL.out])
      rw [cat_three, hv_agg] at c
      exact ⟨wanted_none rfl, showsO_call1 hsn rfl 71 #[.slice (some ⟨g, 0, none⟩) 3 3] (by simp only [execOp, Act.eval]; go_simp) (c) (fun _ => rfl)⟩
    | 11, hi =>
      cases (show some _ = some o from hi)
      have e4 : f.tmps.getD 4 undef = .pointer (some ⟨N + 1, 0, none⟩) := hsame.slot 4 (fun i o h => invB2_not 4 (by kernel_rfl) h)
      have e15 : f.tmps.getD 15 undef = .agg (ocells (beginB s i)) := depO (V := (VBG N i s)) hdep 10 15 (by kernel_rfl) (by kernel_rfl)
      clear hdep hsame hi hfr
      exact ⟨wanted_none rfl, showsO_store_out hsn rfl 23 (.tmp 4) (.tmp 15) rfl (N + 1) e4 X1.out (if_pos rfl) (ocells (beginB s i)) e15 (hszL (sha_length _)) (hsoL (sha_length _)) (ocells_one _) (fun _ h => h)⟩
    | n + 12, hi => exact absurd hi (by simp)
  · intro f u own hsame hsn hall
    have hb := hsn.below (B := N + 1) (fun k hk => if_neg (by omega)) (by have := WS.out; omega)
    have hbw := bgb HN.out KB.out hb
    have hout : OutV own u (N + 1) 11 23 (ocells (beginB s i)) := finN (V := (VBG N i s)) hall 11 rfl
    have h4 : f.tmps.getD 4 undef = .pointer (some ⟨N + 1, 0, none⟩) := hsame.slot 4 (fun i o h => invB2_not 4 (by kernel_rfl) h)
    have hd : f.defers = [] := hsame.defers
    clear hall hsame hsn hb
    refine ‹∀ (a : Act) (w : World), Code.wp _ Code.ret _ a w → _› f u ?_
    exact wp_ret (bodyPost_ret (results_cell_row rfl _ _ (N + 1) _ (ocells (beginB s i)) _ _ h4 hout.2 underH rfl (hszL (sha_length _))) hd ⟨rfl, hbw⟩)
end Go.Proofs.YtohifpomdanmkaaGreatDoor
