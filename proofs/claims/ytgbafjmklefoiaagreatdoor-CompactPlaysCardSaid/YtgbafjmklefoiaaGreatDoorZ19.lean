/- cartularyref09: the document's range in memory; New, Hashes, Copy. -/
import Derived.Test.YtgbafjmklefoiaaGreatDoorZ16
import Derived.Test.YtgbafjmklefoiaaGreatDoorZ09
import Derived.Test.YtgbafjmklefoiaaGreatDoorZ17
import Derived.Test.YtgbafjmklefoiaaGreatDoorZ18
namespace Go.Proofs.YtgbafjmklefoiaaGreatDoor
set_option maxRecDepth 100000
open Go.RowKit
/-- a range of the document: its block, its row of nodes -/
structure RmP (base : Nat) (w : World) (d B E : Nat) (l : List (Nat × Nat × List UInt8)) (s : Value) : Prop where
  hb : w.heap[d]? = some (.cells #[.int .u64 (B : Int), .int .u64 (E : Int), s] 67 (0, 0))
  bd : base ≤ d
  row : w.ownsRow base 105 34 s l.length (ncells l)
  h32 : ∀ x ∈ l, x.2.2.length = 32
def RmS (d : Nat) (s : Value) (k : Nat) : Prop := k = d ∨ s.ownBlock = some k
theorem RmP.lt {base : Nat} {w : World} {d B E : Nat} {l : List (Nat × Nat × List UInt8)} {s : Value} (h : RmP base w d B E l s) (k : Nat) (hk : RmS d s k) : k < w.heap.size := by
  rcases hk with rfl | hk
  · exact (Array.getElem?_eq_some_iff.1 h.hb).1
  · exact ownsRow_lt h.row k hk
theorem RmP.ge {base : Nat} {w : World} {d B E : Nat} {l : List (Nat × Nat × List UInt8)} {s : Value} (h : RmP base w d B E l s) (k : Nat) (hk : RmS d s k) : base ≤ k := by
  rcases hk with rfl | hk
  · exact h.bd
  · exact ownsRow_fresh h.row k hk
theorem RmP.ne {base : Nat} {w : World} {d B E : Nat} {l : List (Nat × Nat × List UInt8)} {s : Value} (h : RmP base w d B E l s) (k : Nat) (hk : s.ownBlock = some k) : k ≠ d := own_ne_blk h.row h.hb (by decide) k hk
theorem RmP.kept {base : Nat} {w w' : World} {d B E : Nat} {l : List (Nat × Nat × List UInt8)} {s : Value} {T : Nat → Prop} (h : RmP base w d B E l s) (k : Keep T w w') (hd : ∀ j, RmS d s j → ¬ T j) : RmP base w' d B E l s :=
  ⟨(k.block d (Array.getElem?_eq_some_iff.1 h.hb).1 (hd d (.inl rfl))).trans h.hb, h.bd, own_keep h.row k (fun j hj => hd j (.inr hj)), h.h32⟩
theorem RmP.below {base : Nat} {w w' : World} {d B E : Nat} {l : List (Nat × Nat × List UInt8)} {s : Value} (h : RmP base w d B E l s) (k : Below w.heap.size w w') : RmP base w' d B E l s :=
  h.kept (Keep.of_below k (fun _ => False)) (fun _ _ e => e)
theorem RmP.mono {base base' : Nat} {w : World} {d B E : Nat} {l : List (Nat × Nat × List UInt8)} {s : Value} (h : RmP base w d B E l s) (hb : base' ≤ base) : RmP base' w d B E l s := ⟨h.hb, Nat.le_trans hb h.bd, ownsRow_mono h.row hb, h.h32⟩
theorem RmP.nss {base : Nat} {w : World} {d B E : Nat} {l : List (Nat × Nat × List UInt8)} {s : Value} (h : RmP base w d B E l s) : Nss w s l := nss_own h.row h.h32 rfl
theorem newsE (w : World) (cs : Array Value) (T : TypeId) : ∀ j u, cs.toList[j]? = some u → (w.alloc (.cells cs T)).cell? ((⟨w.heap.size, 0, none⟩ : Addr).add j) = some u := fun j u hu => by
  rw [Addr.add_mid, Nat.zero_add]
  exact er_cellAt (heap_alloc_new w _) j u (by simpa using hu)
theorem appTwo_keepE {w w' : World} {base : Nat} {e : TypeId} {size n m : Nat} {ys : List Value} {v v' : Value} (h : AppTwo w w' base e size v n m ys v') : w'.ownsRow base e size v' (n + m) ys ∧ Keep (fun j => v.ownBlock = some j) w w' ∧ ∀ k, v'.ownBlock = some k → v.ownBlock = some k ∨ w.heap.size ≤ k := by
  obtain ⟨h1, ⟨g, cap, e1, e2, hg⟩ | ⟨hg, hk⟩⟩ := h
  · subst e1 e2
    exact ⟨h1, Keep.of_grown hg, fun k hk => .inl hk⟩
  · exact ⟨h1, (Keep.of_grown hg).mono (fun k _ h => by cases h), fun k hk' => .inr (hk k hk')⟩
theorem wrap_succR (t : Nat) (h : t < 9223372036854775807) : wrap64 ((t : Int) + 1) = ((t + 1 : Nat) : Int) := by unfold wrap64; omega
theorem rmnew_any (w : World) (n : Nat) : Calls Tryz.prog 6 #[.int .u64 (n : Int)] w fun e w' => ∃ d, e = .returned (.pointer (some ⟨d, 0, none⟩)) ∧ RmP w.heap.size w' d n n [] (.slice none 0 0) ∧ Below w.heap.size w w' := by
  go_enter Tryz.func6, Tryz.ntmps6
  go_wp2
  go_ret
  exact ⟨w.heap.size, rfl, ⟨heap_alloc_new _ _, Nat.le_refl _, World.ownsRow_nil _ _ _ _, fun _ h => by cases h⟩, (Below.refl _ _).alloc (Nat.le_refl _) _⟩
set_option maxHeartbeats 1600000 in
theorem rmhash_any (base : Nat) (w : World) (d B E : Nat) (l : List (Nat × Nat × List UInt8)) (s : Value) (h : RmP base w d B E l s) (hm : l.length ≤ 1001) :
    Calls Tryz.prog 30 #[.pointer (some ⟨d, 0, none⟩)] w fun e w' => ∃ v, e = .returned v ∧ w'.ownsRow w.heap.size 81 32 v l.length (hcells (hsC l)) ∧ Below w.heap.size w w' := by
  obtain ⟨a, c, hs, -, -, -⟩ := own_shape h.row
  obtain ⟨m, hm2⟩ : ∃ m, m = l.length := ⟨_, rfl⟩
  rw [← hm2] at hs
  subst hs
  obtain ⟨N, hN⟩ : ∃ N, N = w.heap.size := ⟨_, rfl⟩
  have HN := Bx.mk hN; have HM := Bx.mk hm2; have LM := Bx.mk hm; have H32 := Bx.mk h.h32
  have HH := Bx.mk (fun u (hu : Below w.heap.size w u) => h.below hu)
  rw [← hm2, ← hN]
  rw [← hN] at HH
  clear h hm hm2 hN
  go_enter Tryz.func30, Tryz.ntmps30
  go_wp2_with fail
  go_loopw [3, 4] (fun ov iv wr => ∃ t : Nat, t ≤ m ∧ iv = .int .i64 (t : Int) ∧ wr.ownsRow N 81 32 ov t (hcells (hsC (l.take t))) ∧ Below N w wr ∧ N ≤ wr.heap.size) (fun _ iv _ => m - (intOf iv).toNat)
  case atStart => exact ⟨0, Nat.zero_le _, rfl, World.ownsRow_nil _ _ _ _, Below.refl _ _, Nat.le_of_eq HN.out⟩
  case round =>
    obtain ⟨t, ht, rfl, ho, hb, hs⟩ := hrel
    obtain ⟨a3, c3, rfl, -, -, -⟩ := own_shape ho
    have HO := Bx.mk ho; have BW := Bx.mk hb; have SW := Bx.mk hs
    have c2 := er_cellAt (HH.out wr hb).hb 2 _ rfl
    clear ho hb hs
    by_cases hlt : t < m
    · have TP := Bx.mk (show t < l.length by rw [← HM.out]; exact hlt)
      obtain ⟨-, -, -, Bq, oq, e, hbq, hrq, -⟩ := (HH.out wr BW.out).nss.at t TP.out
      subst e
      obtain ⟨x, hx⟩ : ∃ x, x = l[t]'(TP.out) := ⟨_, rfl⟩
      have hrx := node_partsC (p := x) (o := oq + t * 34) (by rw [hx]; exact hrq)
      have XL := Bx.mk (show x.2.2.length = 32 by rw [hx]; exact H32.out _ (List.getElem_mem _))
      have HS : Bx (hsC (l.take (t + 1)) = hsC (l.take t) ++ [x.2.2]) := ⟨by rw [hsC_take TP.out, hx]⟩
      have RX := Bx.mk hrx; have TL := Bx.mk hlt
      obtain ⟨i0, hi0, hz0, hz1, hz2⟩ := info_parts infoH
      have RI := Bx.mk (And.intro hi0 (And.intro hz0 (And.intro hz1 hz2)))
      have HO2 := Bx.mk (HO.out.alloc (.cells (ocells x.2.2) 81))
      have NW2 := Bx.mk (newsE wr (ocells x.2.2) 81)
      have BB := Bx.mk (show N ≤ (wr.alloc (.cells (ocells x.2.2) 81)).heap.size by have := SW.out; simp; omega)
      have M1 := Bx.mk (show t + 1 ≤ maxLen by have := TL.out; have := LM.out; have := HM.out; unfold maxLen; omega); have M2 := Bx.mk (show (t + 1) * 32 ≤ 140737488355328 by have := TL.out; have := LM.out; have := HM.out; omega)
      have f2 : ¬ (m : Int) ≤ (t : Int) := by omega
      have f3 : (t : Int) < (m : Int) := by omega
      clear hx hrq hrx hbq hlt ht hi0 hz0 hz1 hz2
      go_upto_region 5 with (fail)
      go_wp2_with (first
        | (guard_target =~ wpList _ _ _ (⟨some 22, _, _, _, _, _⟩ :: _) _ _; refine wpList_load_mid rfl 81 (.tmp 21) rfl Bq (oq + t * 34 + 2) rfl (bcells x.2.2) _ RX.out underH rfl (hszB' XL.out) ?_)
        | (guard_target =~ wpList _ _ _ (⟨some 23, _, _, _, _, _⟩ :: _) _ _; refine wpList_run_c (by simp [Region.wanted]) _ (run_bs_one wr (.tmp 22) rfl x.2.2 XL.out rfl) ?_)
        | (guard_target =~ wpList _ _ _ (⟨some 24, _, _, _, _, _⟩ :: _) _ _; refine wpList_append_apw _ rfl (.tmp 14) (.tmp 23) 55 rfl N 81 i0 (.agg zeros32) 32 32 underHs RI.out.1 RI.out.2.1 RI.out.2.2.1 RI.out.2.2.2 rfl (by decide) (.slice a3 t c3) t (hcells (hsC (l.take t))) rfl HO2.out ⟨wr.heap.size, 0, none⟩ 1 1 (ocells x.2.2).toList rfl ((Array.length_toList ..).trans ((ocells_size x.2.2).trans XL.out)) NW2.out (fun u hu => Array.all_eq_true_iff_forall_mem.1 (ocells_one x.2.2) u (by simpa using hu)) M1.out M2.out BB.out ?_; intro v9 w9 happ; have AP := Bx.mk happ; clear happ))
      obtain ⟨o9, k9, n9⟩ := appTwo_keepE AP.out
      have b9 := er_al (Below.refl wr.heap.size wr) (.cells (ocells x.2.2) 81)
      have R9 : Bx (w9.ownsRow N 81 32 v9 (t + 1) (hcells (hsC (l.take (t + 1)))) ∧ Below N w w9 ∧ N ≤ w9.heap.size) := ⟨by
        rw [HS.out, ← hcells_push]; exact o9, (BW.out.trans (b9.mono SW.out)).trans (k9.below (Nat.le_trans SW.out b9.size) (fun j hj => ownsRow_fresh HO.out j hj)), Nat.le_trans SW.out (Nat.le_trans b9.size k9.size)⟩
      clear o9 k9 n9 b9 AP c2 f2 f3
      go_wp2_with fail
      go_roundw
      case rel => exact ⟨t + 1, TL.out, (by first | rw [wrap_succR t (by have := TL.out; have := LM.out; have := HM.out; omega)] | simp), R9.out⟩
      case measure => first | (rw [wrap_succR t (by have := TL.out; have := LM.out; have := HM.out; omega)]; have := TL.out; simp [intOf]; omega) | (have := TL.out; simp [intOf]; omega)
    · obtain rfl : t = m := by omega
      have ho := HO.out
      rw [show l.take t = l by rw [HM.out]; exact List.take_length] at ho
      have HQ := Bx.mk ho
      have f3 : ¬ (t : Int) < (t : Int) := by omega
      clear ho hlt ht
      go_wp2_with fail
      go_ret
      exact ⟨_, rfl, HQ.out, BW.out⟩
def AggD (own : Nat → Option Nat) (w : World) (v : Value) (B E base n : Nat) (xs : List Value) : Prop := ∃ z, v = .agg #[.int .u64 (B : Int), .int .u64 (E : Int), z] ∧ RowN own w z base 105 34 n xs
theorem AggD.stable {mk own own' : Nat → Option Nat} {w w' : World} {i B E base n : Nat} {v : Value} {xs : List Value} (h : AggD own w v B E base n xs) (r : Rel mk i own w own' w') : AggD own' w' v B E base n xs := by
  obtain ⟨z, e, h⟩ := h
  exact ⟨z, e, h.stable r⟩
def BoxD (own : Nat → Option Nat) (w : World) (v : Value) (B E base n : Nat) (xs : List Value) : Prop := ∃ g z, v = .pointer (some ⟨g, 0, none⟩) ∧ (own g = none ∧ w.heap[g]? = some (.cells #[.int .u64 (B : Int), .int .u64 (E : Int), z] 67 (0, 0))) ∧ base ≤ g ∧ RowN own w z base 105 34 n xs
theorem BoxD.stable {mk own own' : Nat → Option Nat} {w w' : World} {i B E base n : Nat} {v : Value} {xs : List Value} (h : BoxD own w v B E base n xs) (r : Rel mk i own w own' w') : BoxD own' w' v B E base n xs := by
  obtain ⟨g, z, e, ⟨h1, h2⟩, h3, h4⟩ := h
  have hg := (Array.getElem?_eq_some_iff.1 h2).1
  exact ⟨g, z, e, ⟨(r.owns g hg).trans h1, (r.keep g hg (by rw [h1]; simp)).trans h2⟩, h3, h4.stable r⟩
theorem built_rm (x y : Int) (a : Option Addr) (n c : Nat) : Tryz.prog.built 67 [(0, .agg #[.int .u64 x, .int .u64 y]), (1, .slice a n c)] = some #[.int .u64 x, .int .u64 y, .slice a n c] := by kernel_rfl
theorem row_src {w : World} {base : Nat} {e : TypeId} {size n c : Nat} {a : Option Addr} {xs : List Value} (h : w.ownsRow base e size (.slice a n c) n xs) : ∀ ad, a = some ad → ∀ j u, xs[j]? = some u → w.cell? (ad.add j) = some u := by
  rintro ad rfl j u hu
  rcases id h.2 with ⟨e0, _⟩ | ⟨g, c', cur, e1, _⟩
  · cases e0
  · cases e1
    obtain ⟨cur2, hG⟩ := rowG_of h
    rw [Addr.add_mid, Nat.zero_add]
    exact hG.cell hu
theorem RmP.span {base : Nat} {w : World} {d B E : Nat} {l : List (Nat × Nat × List UInt8)} {s : Value} (h : RmP base w d B E l s) : w.rangeAt d 0 [.int .u64 (B : Int), .int .u64 (E : Int)] := fun j v hv => by
  match j, hv with
  | 0, hv => cases hv; exact er_cellAt h.hb 0 _ rfl
  | 1, hv => cases hv; exact er_cellAt h.hb 1 _ rfl
def VQc (d m c B E WS : Nat) (a : Option Addr) (l : List (Nat × Nat × List UInt8)) (oi : Nat) (v : Value) (own : Nat → Option Nat) (w : World) : Prop :=
  match oi with
  | 0 => v = .pointer (some ⟨d, 0, none⟩)
  | 1 => v = .pointer (some ⟨d, 0, none⟩)
  | 2 => v = .pointer (some ⟨d, 0, none⟩)
  | 3 => v = .agg #[.int .u64 (B : Int), .int .u64 (E : Int)]
  | 4 => v = .slice none 0 0
  | 5 => v = .pointer (some ⟨d, 0, none⟩)
  | 6 => v = .pointer (some ⟨d, 0, none⟩)
  | 7 => v = .pointer (some ⟨d, 2, none⟩)
  | 8 => v = .slice a m c
  | 9 => RowN own w v WS 105 34 m (ncells l)
  | 10 => AggD own w v B E WS m (ncells l)
  | 11 => BoxD own w v B E WS m (ncells l)
  | 12 => BoxD own w v B E WS m (ncells l)
  | _ => True
def VQcmk : Nat → Option Nat := fun _ => none
theorem VQc_mono (d m c B E WS : Nat) (a : Option Addr) (l : List (Nat × Nat × List UInt8)) (oi oj : Nat) (v : Value) (own : Nat → Option Nat) (w : World) (own' : Nat → Option Nat) (w' : World) (hij : oi ≠ oj)   (h : VQc d m c B E WS a l oj v own w) (r : Rel VQcmk oi own w own' w') : VQc d m c B E WS a l oj v own' w' := by
  unfold VQc at h ⊢
  split at h
  · exact h
  · exact h
  · exact h
  · exact h
  · exact h
  · exact h
  · exact h
  · exact h
  · exact h
  · exact h.stable r
  · exact h.stable r
  · exact h.stable r
  · exact h.stable r
  · trivial

set_option maxHeartbeats 1600000 in
theorem rmcopy_any (base : Nat) (w : World) (d B E : Nat) (l : List (Nat × Nat × List UInt8)) (s : Value) (h : RmP base w d B E l s) (hm : l.length ≤ 1001) :
    Calls Tryz.prog 23 #[.pointer (some ⟨d, 0, none⟩)] w fun e w' => ∃ q t, e = .returned (.pointer (some ⟨q, 0, none⟩)) ∧ RmP w.heap.size w' q B E l t ∧ Below w.heap.size w w' := by
  obtain ⟨a, c, hs, -, -, hnil⟩ := own_shape h.row
  obtain ⟨m, hm2⟩ : ∃ m, m = l.length := ⟨_, rfl⟩
  rw [← hm2] at hs hnil
  subst hs
  have HM := Bx.mk hm2; have H32 := Bx.mk h.h32; have NIL := Bx.mk hnil
  have HH := Bx.mk (fun u (hu : Below w.heap.size w u) => h.below hu)
  have HR := Bx.mk (fun u (hu : Below w.heap.size w u) => show u.ownsRow base 105 34 (.slice a m c) m (ncells l) by have hr := (h.below hu).row; rw [← hm2] at hr; exact hr)
  have NL := Bx.mk (show (ncells l).length = m * 34 by rw [hm2]; exact h.row.1)
  have M1 := Bx.mk (show 0 + m ≤ maxLen by unfold maxLen; omega); have M2 := Bx.mk (show (0 + m) * 48 ≤ 140737488355328 by omega)
  obtain ⟨i0, hi0, hz0, hz1, hz2⟩ := info_parts infoNz
  have RI := Bx.mk (And.intro hi0 (And.intro hz0 (And.intro hz1 hz2)))
  obtain ⟨N, hN⟩ : ∃ N, N = w.heap.size := ⟨_, rfl⟩
  have HN := Bx.mk hN
  clear h hm hm2 hnil hi0 hz0 hz1 hz2 hN
  go_enter Tryz.func23, Tryz.ntmps23
  go_upto_region 2 with (fail)
  refine wp_region_own8 (n := 16) VQcmk (fun _ => none) (VQc d m c B E N a l) (by kernel_rfl) (by kernel_rfl) rfl (fun _ _ => rfl) (fun j i hj _ => by cases hj) ?_ ?_ ?_
  · exact fun oi oj v own w own' w' hij _ h r => VQc_mono d m c B E N a l oi oj v own w own' w' hij h r
  · intro oi o hi f u own hsame hsn hfr hlate hkeep8 hdep
    have hkeep := hkeep8 _ (.inl rfl)
    have hb6 := hsn.below (B := w.heap.size) (fun _ _ => rfl) (Nat.le_refl _)
    match oi, hi with
    | 0, hi =>
      cases (show some _ = some o from hi)
      have e0 : f.tmps.getD 0 undef = .pointer (some ⟨d, 0, none⟩) := hsame.slot 0 (fun i o h => invB2_not 0 (by kernel_rfl) h)
      clear hdep hsame hi hlate hfr hkeep
      exact .inl ⟨wanted_none rfl, showsO_move hsn rfl _ rfl e0⟩
    | 1, hi =>
      cases (show some _ = some o from hi)
      have e4 : (f.tmps.getD 4 undef) = .pointer (some ⟨d, 0, none⟩) := depO (V := (VQc d m c B E N a l)) hdep 0 4 (by kernel_rfl) (by kernel_rfl)
      clear hdep hsame hi hlate hfr hkeep
      exact .inl ⟨wanted_none rfl, showsO_pure hsn rfl (.pointer (some ⟨d, 0, none⟩)) (by simp only [execOp, Act.eval]; go_simp) rfl⟩
    | 2, hi =>
      cases (show some _ = some o from hi)
      have e5 : (f.tmps.getD 5 undef) = .pointer (some ⟨d, 0, none⟩) := depO (V := (VQc d m c B E N a l)) hdep 1 5 (by kernel_rfl) (by kernel_rfl)
      clear hdep hsame hi hlate hfr hkeep
      exact .inl ⟨wanted_none rfl, showsO_pure hsn rfl (.pointer (some ⟨d, 0, none⟩)) (by simp only [execOp, Act.eval]; go_simp) rfl⟩
    | 3, hi =>
      cases (show some _ = some o from hi)
      have e6 : (f.tmps.getD 6 undef) = .pointer (some ⟨d, 0, none⟩) := depO (V := (VQc d m c B E N a l)) hdep 2 6 (by kernel_rfl) (by kernel_rfl)
      clear hdep hsame hi hlate hfr hkeep
      exact .inl ⟨wanted_none rfl, showsO_mid hsn rfl 54 (.tmp 6) rfl d (0) e6 [.int .u64 (B : Int), .int .u64 (E : Int)] (HH.out u hb6).span Tryz.underlying54 rfl (by kernel_rfl) rfl⟩
    | 4, hi =>
      cases (show some _ = some o from hi)
      have e3 : f.tmps.getD 3 undef = .slice none 0 0 := hsame.slot 3 (fun i o h => invB2_not 3 (by kernel_rfl) h)
      clear hdep hsame hi hlate hfr hkeep
      exact .inl ⟨wanted_none rfl, showsO_move hsn rfl _ rfl e3⟩
    | 5, hi =>
      cases (show some _ = some o from hi)
      have e0 : f.tmps.getD 0 undef = .pointer (some ⟨d, 0, none⟩) := hsame.slot 0 (fun i o h => invB2_not 0 (by kernel_rfl) h)
      clear hdep hsame hi hlate hfr hkeep
      exact .inl ⟨wanted_none rfl, showsO_move hsn rfl _ rfl e0⟩
    | 6, hi =>
      cases (show some _ = some o from hi)
      have e9 : (f.tmps.getD 9 undef) = .pointer (some ⟨d, 0, none⟩) := depO (V := (VQc d m c B E N a l)) hdep 5 9 (by kernel_rfl) (by kernel_rfl)
      clear hdep hsame hi hlate hfr hkeep
      exact .inl ⟨wanted_none rfl, showsO_pure hsn rfl (.pointer (some ⟨d, 0, none⟩)) (by simp only [execOp, Act.eval]; go_simp) rfl⟩
    | 7, hi =>
      cases (show some _ = some o from hi)
      have e10 : (f.tmps.getD 10 undef) = .pointer (some ⟨d, 0, none⟩) := depO (V := (VQc d m c B E N a l)) hdep 6 10 (by kernel_rfl) (by kernel_rfl)
      clear hdep hsame hi hlate hfr hkeep
      exact .inl ⟨wanted_none rfl, showsO_pure hsn rfl (.pointer (some ⟨d, 2, none⟩)) (by simp only [execOp, Act.eval]; go_simp) rfl⟩
    | 8, hi =>
      cases (show some _ = some o from hi)
      have e11 : (f.tmps.getD 11 undef) = .pointer (some ⟨d, 2, none⟩) := depO (V := (VQc d m c B E N a l)) hdep 7 11 (by kernel_rfl) (by kernel_rfl)
      clear hdep hsame hi hlate hfr hkeep
      have c12 := er_cellAt (HH.out u hb6).hb 2 _ rfl
      exact .inl ⟨wanted_none rfl, showsO_pure hsn rfl (.slice a m c) (by simp only [execOp, Act.eval]; go_simp) rfl⟩
    | 9, hi =>
      cases (show some _ = some o from hi)
      have e8 : (f.tmps.getD 8 undef) = .slice none 0 0 := depO (V := (VQc d m c B E N a l)) hdep 4 8 (by kernel_rfl) (by kernel_rfl)
      have e12 : (f.tmps.getD 12 undef) = .slice a m c := depO (V := (VQc d m c B E N a l)) hdep 8 12 (by kernel_rfl) (by kernel_rfl)
      clear hdep hsame hi hlate hfr
      exact .inl ⟨wanted_none rfl, showsO_appendX hsn hkeep rfl (.tmp 8) (.tmp 12) 63 rfl N 105 i0 (.agg zerosN) 34 48 underNs RI.out.1 RI.out.2.1 RI.out.2.2.1 RI.out.2.2.2 rfl (by decide) (.slice none 0 0) 0 [] e8 (World.ownsRow_nil _ _ _ _) (fun k hk => by cases hk) a m c (ncells l) e12 NIL.out NL.out (row_src (HR.out u hb6)) (ncells_oneC l) M1.out M2.out (Nat.le_of_eq HN.out) (fun v' w' own' h hn => ⟨by have h1 := h.1.1; rw [Nat.zero_add, List.nil_append] at h1; exact h1, fun k hk => (hn k hk).elim (fun e => by cases e) id⟩)⟩
    | 10, hi =>
      cases (show some _ = some o from hi)
      have e7 : (f.tmps.getD 7 undef) = .agg #[.int .u64 (B : Int), .int .u64 (E : Int)] := depO (V := (VQc d m c B E N a l)) hdep 3 7 (by kernel_rfl) (by kernel_rfl)
      have e13 : RowN own u (f.tmps.getD 13 undef) N 105 34 m (ncells l) := depO (V := (VQc d m c B E N a l)) hdep 9 13 (by kernel_rfl) (by kernel_rfl)
      clear hdep hsame hi hlate hfr hkeep
      obtain ⟨hr1, hr2⟩ := e13
      obtain ⟨a8, c8, e13, _, _, _⟩ := own_shape hr1
      rw [e13] at hr1 hr2
      exact .inl ⟨wanted_none rfl, showsO_build hsn rfl 67 #[(0, .tmp 7), (1, .tmp 13)] rfl #[.int .u64 (B : Int), .int .u64 (E : Int), .slice a8 m c8] (by simp only [List.map_toArray, List.map_cons, List.map_nil, Act.eval]; rw [e7, e13]; exact built_rm _ _ _ _ _) ⟨_, rfl, hr1, hr2⟩⟩
    | 11, hi =>
      cases (show some _ = some o from hi)
      have e14 : AggD own u (f.tmps.getD 14 undef) B E N m (ncells l) := depO (V := (VQc d m c B E N a l)) hdep 10 14 (by kernel_rfl) (by kernel_rfl)
      clear hdep hsame hi hlate hkeep
      obtain ⟨z14, e14, hR⟩ := e14
      exact .inl ⟨wanted_none rfl, showsO_run rfl _ (run_boxC u (.tmp 14) 67 rfl #[.int .u64 (B : Int), .int .u64 (E : Int), z14] e14) own (Rel.below _ _ hsn (er_al (Below.refl _ _) _)) ⟨u.heap.size, z14, rfl, ⟨hsn.top _ (Nat.le_refl _), heap_alloc_new _ _⟩, Nat.le_trans (Nat.le_of_eq HN.out) hsn.size, hR.1.alloc _, hR.2⟩⟩
    | 12, hi =>
      cases (show some _ = some o from hi)
      have e15 : BoxD own u (f.tmps.getD 15 undef) B E N m (ncells l) := depO (V := (VQc d m c B E N a l)) hdep 11 15 (by kernel_rfl) (by kernel_rfl)
      clear hdep hsame hi hlate hfr hkeep
      exact .inl ⟨wanted_none rfl, showsO_assign hsn rfl _ rfl e15⟩
    | n + 13, hi => exact absurd hi (by simp)
  · intro f u own hsame hsn hall
    have q4 : f.tmps.getD 4 undef = .pointer (some ⟨d, 0, none⟩) := finO (V := (VQc d m c B E N a l)) hall 0 4 rfl
    have q5 : f.tmps.getD 5 undef = .pointer (some ⟨d, 0, none⟩) := finO (V := (VQc d m c B E N a l)) hall 1 5 rfl
    have q6 : f.tmps.getD 6 undef = .pointer (some ⟨d, 0, none⟩) := finO (V := (VQc d m c B E N a l)) hall 2 6 rfl
    have q7 : f.tmps.getD 7 undef = .agg #[.int .u64 (B : Int), .int .u64 (E : Int)] := finO (V := (VQc d m c B E N a l)) hall 3 7 rfl
    have q8 : f.tmps.getD 8 undef = .slice none 0 0 := finO (V := (VQc d m c B E N a l)) hall 4 8 rfl
    have q9 : f.tmps.getD 9 undef = .pointer (some ⟨d, 0, none⟩) := finO (V := (VQc d m c B E N a l)) hall 5 9 rfl
    have q10 : f.tmps.getD 10 undef = .pointer (some ⟨d, 0, none⟩) := finO (V := (VQc d m c B E N a l)) hall 6 10 rfl
    have q11 : f.tmps.getD 11 undef = .pointer (some ⟨d, 2, none⟩) := finO (V := (VQc d m c B E N a l)) hall 7 11 rfl
    have q12 : f.tmps.getD 12 undef = .slice a m c := finO (V := (VQc d m c B E N a l)) hall 8 12 rfl
    have m13 := finO (V := (VQc d m c B E N a l)) hall 9 13 rfl
    obtain ⟨r13, q13⟩ : ∃ r, f.tmps.getD 13 undef = r := ⟨_, rfl⟩
    rw [q13] at m13
    obtain ⟨z14, q14, R14⟩ := finO (V := (VQc d m c B E N a l)) hall 10 14 rfl
    obtain ⟨g15, z15, q15, o15, b15, R15⟩ := finO (V := (VQc d m c B E N a l)) hall 11 15 rfl
    obtain ⟨g2, z2, q2, o2, b2, R2⟩ := finO (V := (VQc d m c B E N a l)) hall 12 2 rfl
    obtain rfl := frame_eq hsame [(4, .pointer (some ⟨d, 0, none⟩)), (5, .pointer (some ⟨d, 0, none⟩)), (6, .pointer (some ⟨d, 0, none⟩)), (7, .agg #[.int .u64 (B : Int), .int .u64 (E : Int)]), (8, .slice none 0 0), (9, .pointer (some ⟨d, 0, none⟩)), (10, .pointer (some ⟨d, 0, none⟩)), (11, .pointer (some ⟨d, 2, none⟩)), (12, .slice a m c), (13, r13), (14, (.agg #[.int .u64 (B : Int), .int .u64 (E : Int), z14])), (15, (.pointer (some ⟨g15, 0, none⟩))), (2, (.pointer (some ⟨g2, 0, none⟩)))] (by kernel_rfl) ⟨q4, q5, q6, q7, q8, q9, q10, q11, q12, q13, q14, q15, q2, trivial⟩
    clear hall hsame q4 q5 q6 q7 q8 q9 q10 q11 q12 q13 q14 q15 q2
    simp only [List.foldl, List.setIfInBounds_toArray, List.set_cons_succ, List.set_cons_zero]
    have hb := hsn.below (B := w.heap.size) (fun _ _ => rfl) (Nat.le_refl _)
    have FIN : Bx (RmP w.heap.size u g2 B E l z2 ∧ Below w.heap.size w u) := ⟨⟨o2.2, by rw [← HN.out]; exact b2, by have h1 := R2.1; rw [HM.out, HN.out] at h1; exact h1, H32.out⟩, hb⟩
    clear R14 R15 R2 o15 o2 b15 b2 hb hsn
    go_wp2_with fail
    go_ret
    exact ⟨g2, z2, rfl, FIN.out⟩
end Go.Proofs.YtgbafjmklefoiaaGreatDoor
