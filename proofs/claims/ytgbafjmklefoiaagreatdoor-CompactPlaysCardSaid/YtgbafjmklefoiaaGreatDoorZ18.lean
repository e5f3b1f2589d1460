/- slices.Clone of nodes, (*compact.Range).Copy. -/
import Derived.Test.YtgbafjmklefoiaaGreatDoorZ17
import Derived.Great.BuildSlice
import Derived.Lib.SliceRun
namespace Go.Proofs.YtgbafjmklefoiaaGreatDoor
set_option maxRecDepth 100000
open Go.RowKit
theorem ncells_oneC (l : List (Nat × Nat × List UInt8)) : ∀ u ∈ ncells l, u.oneCell' = true := by
  intro u hu
  unfold ncells at hu
  obtain ⟨p, _, hp⟩ := List.mem_flatMap.1 hu
  have := ncell_one p
  rw [← Array.all_toList, List.all_eq_true] at this
  exact this u hp
theorem bs_zeroN (w : World) : (Instr.buildSlice 63 0 #[]).run Tryz.prog w = .ok (.slice (some ⟨w.heap.size, 0, none⟩) 0 0) (w.alloc (.cells #[] 105)) := by kernel_rfl
theorem wpList_bs_zeroN {ops : Array Oper} {rest : List Oper} {o : Oper} {a : Act} {w : World} {Q : Exit → Act → World → Prop} (hw : Region.wanted o (yielded ops a.tmps) = true) (ho : o.op = .buildSlice 63 0 #[])
    (h : wpList Tryz.prog ops Q rest (a.put o.dst (.slice (some ⟨w.heap.size, 0, none⟩) 0 0)) (w.alloc (.cells #[] 105))) : wpList Tryz.prog ops Q (o :: rest) a w :=
  wpList_step fun K hK => by
    rw [if_pos hw]
    have hr := bs_zeroN w
    unfold Oper.wp execOp
    simp only [ho, List.map_toArray, List.map_nil, Sem.run_bind, hr, Result.andThen_ok]
    exact hK _ _ h
set_option maxHeartbeats 800000 in
theorem cloneN_any (base : Nat) (w : World) (a : Option Addr) (c n : Nat) (l : List (Nat × Nat × List UInt8)) (hn : n = l.length) (h : w.ownsRow base 105 34 (.slice a n c) n (ncells l)) (h32 : ∀ x ∈ l, x.2.2.length = 32) (hm : n ≤ 1001) :
    Calls Tryz.prog 91 #[.slice a n c] w fun e w' => ∃ v, e = .returned v ∧ (w'.ownsRow w.heap.size 105 34 v n (ncells l) ∧ ∀ k, v.ownBlock = some k → w.heap.size ≤ k) ∧ Below w.heap.size w w' := by
  obtain ⟨hnil, hnews⟩ := own_src (own_keep h (Keep.of_below (er_al (Below.refl w.heap.size w) (.cells #[] 105)) (fun _ => False)) (fun _ _ h => h))
  cases a with
  | none =>
    obtain ⟨rfl, rfl⟩ := hnil rfl
    obtain rfl : l = [] := List.length_eq_zero_iff.1 hn.symm
    clear hnil hnews h h32 hm hn
    go_enter Tryz.func91, Tryz.ntmps91
    have q1 := Lib.run_eql_slice_nil (P := Tryz.prog) w 63 105 none 0 0 0 0 underNs
    go_wp2_with fail
    go_ret
    exact ⟨_, rfl, ⟨World.ownsRow_nil w _ _ _, fun k hk => by cases hk⟩, Below.refl _ _⟩
  | some ad =>
    have hcl := ncells_length h32
    obtain ⟨i0, hi, hz0, hz1, hz2⟩ := info_parts infoNz
    have hn0 := World.ownsRow_lit (e := 105) (size := 34) (base := w.heap.size) w #[] 0 (Nat.le_refl _) (by unfold maxLen; decide) rfl
    have RI := Bx.mk (And.intro hi (And.intro hz0 (And.intro hz1 hz2)))
    have HN := Bx.mk hnil; have HS := Bx.mk hnews; have HL := Bx.mk (show (ncells l).length = n * 34 by rw [hcl, hn]); have R0 := Bx.mk hn0
    have M1 := Bx.mk (show 0 + n ≤ maxLen by unfold maxLen; omega); have M2 := Bx.mk (show (0 + n) * 48 ≤ 140737488355328 by omega)
    clear h hnil hnews hcl hi hz0 hz1 hz2 hn0 hm h32 hn
    go_enter Tryz.func91, Tryz.ntmps91
    have q1 := Lib.run_eql_slice_nil (P := Tryz.prog) w 63 105 (some ad) n c 0 0 underNs
    go_wp2_with (first
      | (guard_target =~ wpList _ _ _ (⟨some 5, _, _, _, _, _⟩ :: _) _ _; refine wpList_bs_zeroN (by simp [Region.wanted]) rfl ?_)
      | (guard_target =~ wpList _ _ _ (⟨some 7, _, _, _, _, _⟩ :: _) _ _; refine wpList_append_src rfl (.tmp 5) (.tmp 6) 63 rfl w.heap.size 105 i0 (.agg zerosN) 34 48 underNs RI.out.1 RI.out.2.1 RI.out.2.2.1 RI.out.2.2.2 rfl (by decide) (.slice (some ⟨w.heap.size, 0, none⟩) 0 0) 0 [] rfl R0.out (some ad) n c (ncells l) rfl HN.out HL.out HS.out (ncells_oneC _) M1.out M2.out (by simp) ?_; intro v1 w1 o1 g1 _; have O1 := Bx.mk o1; have G1 := Bx.mk g1; clear o1 g1))
    go_ret
    have o1 := O1.out
    rw [Nat.zero_add, List.nil_append] at o1
    have g1 := (Keep.of_below (er_al (Below.refl w.heap.size w) (.cells #[] 105)) (fun _ => False)).trans (S' := fun k => some w.heap.size = some k) (Keep.of_grown G1.out) (fun k hk h => by injection h with h; omega)
    exact ⟨v1, rfl, ⟨o1, fun k hk => ownsRow_fresh o1 k hk⟩, g1.below (Nat.le_refl _) (fun _ h => h.elim)⟩
/-- a value of a range's cells, its row of its own -/
def AggC (own : Nat → Option Nat) (w : World) (v : Value) (B E base n : Nat) (xs : List Value) : Prop := ∃ z, v = .agg #[.bool true, .int .u64 (B : Int), .int .u64 (E : Int), z] ∧ RowN own w z base 105 34 n xs
theorem AggC.stable {mk own own' : Nat → Option Nat} {w w' : World} {i B E base n : Nat} {v : Value} {xs : List Value} (h : AggC own w v B E base n xs) (r : Rel mk i own w own' w') : AggC own' w' v B E base n xs := by
  obtain ⟨z, e, h⟩ := h
  exact ⟨z, e, h.stable r⟩
/-- such a value in a block -/
def BoxC (own : Nat → Option Nat) (w : World) (v : Value) (B E base n : Nat) (xs : List Value) : Prop := ∃ g z, v = .pointer (some ⟨g, 0, none⟩) ∧ (own g = none ∧ w.heap[g]? = some (.cells #[.bool true, .int .u64 (B : Int), .int .u64 (E : Int), z] 65 (0, 0))) ∧ base ≤ g ∧ RowN own w z base 105 34 n xs
theorem BoxC.stable {mk own own' : Nat → Option Nat} {w w' : World} {i B E base n : Nat} {v : Value} {xs : List Value} (h : BoxC own w v B E base n xs) (r : Rel mk i own w own' w') : BoxC own' w' v B E base n xs := by
  obtain ⟨g, z, e, ⟨h1, h3⟩, h4, h⟩ := h
  have hg := (Array.getElem?_eq_some_iff.1 h3).1
  exact ⟨g, z, e, ⟨(r.owns g hg).trans h1, (r.keep g hg (by rw [h1]; simp)).trans h3⟩, h4, h.stable r⟩
theorem run_boxC {o : Oper} {a : Act} (w : World) (x : Operand) (T : TypeId) (ho : o.op = .box T x) (X : Array Value) (hx : a.eval x = .agg X) :
    (execOp a.eval o).run Tryz.prog w = .ok (.value (.pointer (some ⟨w.heap.size, 0, none⟩))) (w.alloc (.cells X T)) := by
  unfold execOp
  simp [ho, hx, Instr.box, newVar, newRow, Value.cells]
theorem showsO_boxC {mk own0 own : Nat → Option Nat} {w0 w : World} {Q : Exit → Act → World → Prop} {V : Nat → Value → (Nat → Option Nat) → World → Prop} {i : Nat} {o : Oper} {a : Act} (hs : Since own0 w0 own w) {d : Nat} (hd : o.dst = some d) (x : Operand) (ho : o.op = .box 65 x)
    {B E base n : Nat} {xs : List Value} (hx : AggC own w (a.eval x) B E base n xs) (hb : base ≤ w.heap.size) (hv : ∀ v w', BoxC own w' v B E base n xs → V i v own w') : ShowsO mk Tryz.prog Q V i o a own w := by
  obtain ⟨z, e, h⟩ := hx
  refine showsO_run hd _ (run_boxC w x _ ho _ e) own (Rel.below mk i hs (er_al (Below.refl _ _) _)) (hv _ _ ⟨_, z, rfl, ⟨hs.top _ (Nat.le_refl _), heap_alloc_new _ _⟩, hb, own_keep h.1 (Keep.of_below (er_al (Below.refl _ _) _) (fun _ => False)) (fun _ _ h => h), h.2⟩)
theorem built_rangeC (x y : Int) (a : Option Addr) (n c : Nat) : Tryz.prog.built 65 [(0, .bool true), (1, .agg #[.int .u64 x, .int .u64 y]), (2, .slice a n c)] = some #[.bool true, .int .u64 x, .int .u64 y, .slice a n c] := by kernel_rfl
def VJ3 (r B E base n sc : Nat) (sa : Option Addr) (xs : List Value) (oi : Nat) (v : Value) (own : Nat → Option Nat) (w : World) : Prop :=
  match oi with
  | 0 => v = .pointer (some ⟨r, 0, none⟩)
  | 1 => v = .pointer (some ⟨r, 0, none⟩)
  | 2 => v = .pointer (some ⟨r, 1, none⟩)
  | 3 => v = .agg #[.int .u64 (B : Int), .int .u64 (E : Int)]
  | 4 => v = .pointer (some ⟨r, 0, none⟩)
  | 5 => v = .pointer (some ⟨r, 0, none⟩)
  | 6 => v = .pointer (some ⟨r, 3, none⟩)
  | 7 => v = .slice sa n sc
  | 8 => RowN own w v base 105 34 n xs
  | 9 => AggC own w v B E base n xs
  | 10 => BoxC own w v B E base n xs
  | 11 => BoxC own w v B E base n xs
  | _ => True
def VJ3mk : Nat → Option Nat := fun _ => none
theorem VJ3_mono (r B E base n sc : Nat) (sa : Option Addr) (xs : List Value) (oi oj : Nat) (v : Value) (own : Nat → Option Nat) (w : World) (own' : Nat → Option Nat) (w' : World) (hij : oi ≠ oj)   (h : VJ3 r B E base n sc sa xs oj v own w) (r1 : Rel VJ3mk oi own w own' w') : VJ3 r B E base n sc sa xs oj v own' w' := by
  unfold VJ3 at h ⊢
  split at h
  · exact h
  · exact h
  · exact h
  · exact h
  · exact h
  · exact h
  · exact h
  · exact h
  · exact h.stable r1
  · exact h.stable r1
  · exact h.stable r1
  · exact h.stable r1
  · trivial

set_option maxHeartbeats 1600000 in
theorem rcopy_any (base : Nat) (w : World) (r B E : Nat) (l : List (Nat × Nat × List UInt8)) (s : Value) (hR : RaP base w r B E l s) (hm : l.length ≤ 1001) :
    Calls Tryz.prog 22 #[.pointer (some ⟨r, 0, none⟩)] w fun e w' => ∃ q t, e = .returned (.pointer (some ⟨q, 0, none⟩)) ∧ RaP w.heap.size w' q B E l t ∧ Below w.heap.size w w' := by
  obtain ⟨n, hn⟩ : ∃ n, n = l.length := ⟨_, rfl⟩
  have hown := hR.own
  rw [← hn] at hown
  obtain ⟨sa, sc, hs, -, -, -⟩ := own_shape hown
  subst hs
  have R0 := Bx.mk hR; have HN := Bx.mk hn; have LM := Bx.mk (show n ≤ 1001 by omega)
  clear hR hown hm hn
  obtain ⟨Z0, hZ0⟩ : ∃ Z0, Z0 = w.heap.size := ⟨_, rfl⟩
  have HZ := Bx.mk hZ0; clear hZ0
  go_enter Tryz.func22, Tryz.ntmps22
  go_wp2_with fail
  refine (there_any R0.out).mono ?_
  rintro e W ⟨rfl, hb⟩
  have K1 := Bx.mk hb; have R1 := Bx.mk (R0.out.below hb)
  clear hb R0
  have XR := Bx.mk R1.out.hb
  have RG : Bx (W.rangeAt r 1 [.int .u64 (B : Int), .int .u64 (E : Int)]) := ⟨fun j v hv => by
    match j, hv with
    | 0, hv => cases hv; exact er_cellAt R1.out.hb 1 _ rfl
    | 1, hv => cases hv; exact er_cellAt R1.out.hb 2 _ rfl⟩
  have CC : Bx (∀ u, Below W.heap.size W u → Calls Tryz.prog 91 #[.slice sa n sc] u fun e w' => ∃ v, e = .returned v ∧ (w'.ownsRow Z0 105 34 v n (ncells l) ∧ ∀ k, v.ownBlock = some k → u.heap.size ≤ k) ∧ Below u.heap.size u w') := ⟨fun u hu => by
    have hown := (R1.out.below hu).own
    rw [← HN.out] at hown
    exact (cloneN_any base u sa sc n l HN.out hown R1.out.h32 LM.out).mono fun e w' ⟨v, h1, h2, h3⟩ => ⟨v, h1, ⟨ownsRow_mono h2.1 (by rw [HZ.out]; exact Nat.le_trans K1.out.size hu.size), h2.2⟩, h3⟩⟩
  go_upto_region 3 with (fail)
  refine wp_region_own8 (n := 17) VJ3mk (fun _ => none) (VJ3 r B E Z0 n sc sa (ncells l)) (by kernel_rfl) (by kernel_rfl) rfl (fun _ _ => rfl) (fun j i hj _ => by cases hj) ?_ ?_ ?_
  · exact fun oi oj v own w own' w' hij _ h r1 => VJ3_mono r B E Z0 n sc sa (ncells l) oi oj v own w own' w' hij h r1
  · intro oi o hi f u own hsame hsn hfr hlate hkeep8 hdep
    have hkeep := hkeep8 _ (.inl rfl)
    have hb6 := hsn.below (B := W.heap.size) (fun _ _ => rfl) (Nat.le_refl _)
    match oi, hi with
    | 0, hi =>
      cases (show some _ = some o from hi)
      have e0 : f.tmps.getD 0 undef = .pointer (some ⟨r, 0, none⟩) := hsame.slot 0 (fun i o h => invB2_not 0 (by kernel_rfl) h)
      clear hdep hsame hi hlate hfr hkeep
      exact .inl ⟨wanted_none rfl, showsO_move hsn rfl _ rfl e0⟩
    | 1, hi =>
      cases (show some _ = some o from hi)
      have e6 : (f.tmps.getD 6 undef) = .pointer (some ⟨r, 0, none⟩) := depO (V := (VJ3 r B E Z0 n sc sa (ncells l))) hdep 0 6 (by kernel_rfl) (by kernel_rfl)
      clear hdep hsame hi hlate hfr hkeep
      exact .inl ⟨wanted_none rfl, showsO_pure hsn rfl (.pointer (some ⟨r, 0, none⟩)) (by simp only [execOp, Act.eval]; go_simp) rfl⟩
    | 2, hi =>
      cases (show some _ = some o from hi)
      have e7 : (f.tmps.getD 7 undef) = .pointer (some ⟨r, 0, none⟩) := depO (V := (VJ3 r B E Z0 n sc sa (ncells l))) hdep 1 7 (by kernel_rfl) (by kernel_rfl)
      clear hdep hsame hi hlate hfr hkeep
      exact .inl ⟨wanted_none rfl, showsO_pure hsn rfl (.pointer (some ⟨r, 1, none⟩)) (by simp only [execOp, Act.eval]; go_simp) rfl⟩
    | 3, hi =>
      cases (show some _ = some o from hi)
      have e8 : (f.tmps.getD 8 undef) = .pointer (some ⟨r, 1, none⟩) := depO (V := (VJ3 r B E Z0 n sc sa (ncells l))) hdep 2 8 (by kernel_rfl) (by kernel_rfl)
      clear hdep hsame hi hlate hfr hkeep
      exact .inl ⟨wanted_none rfl, showsO_mid hsn rfl 54 (.tmp 8) rfl r 1 e8 [.int .u64 (B : Int), .int .u64 (E : Int)] (rangeAt_below RG.out (Array.getElem?_eq_some_iff.1 XR.out).1 hb6) Tryz.underlying54 rfl sizeS rfl⟩
    | 4, hi =>
      cases (show some _ = some o from hi)
      have e0 : f.tmps.getD 0 undef = .pointer (some ⟨r, 0, none⟩) := hsame.slot 0 (fun i o h => invB2_not 0 (by kernel_rfl) h)
      clear hdep hsame hi hlate hfr hkeep
      exact .inl ⟨wanted_none rfl, showsO_move hsn rfl _ rfl e0⟩
    | 5, hi =>
      cases (show some _ = some o from hi)
      have e10 : (f.tmps.getD 10 undef) = .pointer (some ⟨r, 0, none⟩) := depO (V := (VJ3 r B E Z0 n sc sa (ncells l))) hdep 4 10 (by kernel_rfl) (by kernel_rfl)
      clear hdep hsame hi hlate hfr hkeep
      exact .inl ⟨wanted_none rfl, showsO_pure hsn rfl (.pointer (some ⟨r, 0, none⟩)) (by simp only [execOp, Act.eval]; go_simp) rfl⟩
    | 6, hi =>
      cases (show some _ = some o from hi)
      have e11 : (f.tmps.getD 11 undef) = .pointer (some ⟨r, 0, none⟩) := depO (V := (VJ3 r B E Z0 n sc sa (ncells l))) hdep 5 11 (by kernel_rfl) (by kernel_rfl)
      clear hdep hsame hi hlate hfr hkeep
      exact .inl ⟨wanted_none rfl, showsO_pure hsn rfl (.pointer (some ⟨r, 3, none⟩)) (by simp only [execOp, Act.eval]; go_simp) rfl⟩
    | 7, hi =>
      cases (show some _ = some o from hi)
      have e12 : (f.tmps.getD 12 undef) = .pointer (some ⟨r, 3, none⟩) := depO (V := (VJ3 r B E Z0 n sc sa (ncells l))) hdep 6 12 (by kernel_rfl) (by kernel_rfl)
      clear hdep hsame hi hlate hfr hkeep
      have c13 := er_cellAt ((hb6.block _ (Array.getElem?_eq_some_iff.1 XR.out).1).trans XR.out) 3 _ rfl
      exact .inl ⟨wanted_none rfl, showsO_pure hsn rfl (.slice sa n sc) (by simp only [execOp, Act.eval]; go_simp) rfl⟩
    | 8, hi =>
      cases (show some _ = some o from hi)
      have e13 : (f.tmps.getD 13 undef) = .slice sa n sc := depO (V := (VJ3 r B E Z0 n sc sa (ncells l))) hdep 7 13 (by kernel_rfl) (by kernel_rfl)
      clear hdep hsame hi hlate hfr hkeep
      have c := CC.out u hb6
      exact .inl ⟨wanted_none rfl, showsO_call (R := fun v w' => w'.ownsRow Z0 105 34 v n (ncells l) ∧ ∀ k, v.ownBlock = some k → u.heap.size ≤ k) hsn rfl 91 #[.slice sa n sc] (by simp only [execOp, Act.eval]; go_simp) c (fun v w' h _ => ⟨h.1, fun k hk => hsn.top k (h.2 k hk)⟩)⟩
    | 9, hi =>
      cases (show some _ = some o from hi)
      have e9 : (f.tmps.getD 9 undef) = .agg #[.int .u64 (B : Int), .int .u64 (E : Int)] := depO (V := (VJ3 r B E Z0 n sc sa (ncells l))) hdep 3 9 (by kernel_rfl) (by kernel_rfl)
      have e14 : RowN own u (f.tmps.getD 14 undef) Z0 105 34 n (ncells l) := depO (V := (VJ3 r B E Z0 n sc sa (ncells l))) hdep 8 14 (by kernel_rfl) (by kernel_rfl)
      clear hdep hsame hi hlate hfr hkeep
      obtain ⟨az, cz, ez, -, -, -⟩ := own_shape e14.1
      exact .inl ⟨wanted_none rfl, showsO_build hsn rfl 65 #[(0, .const (.bool true)), (1, .tmp 9), (2, .tmp 14)] rfl #[.bool true, .int .u64 (B : Int), .int .u64 (E : Int), .slice az n cz] (by simp only [List.map_toArray, List.map_cons, List.map_nil, Act.eval]; rw [e9, ez]; exact built_rangeC _ _ _ _ _) ⟨_, rfl, by rw [← ez]; exact e14⟩⟩
    | 10, hi =>
      cases (show some _ = some o from hi)
      have e15 : AggC own u (f.tmps.getD 15 undef) B E Z0 n (ncells l) := depO (V := (VJ3 r B E Z0 n sc sa (ncells l))) hdep 9 15 (by kernel_rfl) (by kernel_rfl)
      clear hdep hsame hi hlate hkeep
      exact .inl ⟨wanted_none rfl, showsO_boxC hsn rfl (.tmp 15) rfl e15 (by rw [HZ.out]; exact K1.out.trans (hb6.mono K1.out.size) |>.size) (fun v w h => h)⟩
    | 11, hi =>
      cases (show some _ = some o from hi)
      have e16 : BoxC own u (f.tmps.getD 16 undef) B E Z0 n (ncells l) := depO (V := (VJ3 r B E Z0 n sc sa (ncells l))) hdep 10 16 (by kernel_rfl) (by kernel_rfl)
      clear hdep hsame hi hlate hfr hkeep
      exact .inl ⟨wanted_none rfl, showsO_assign hsn rfl (.tmp 16) rfl e16⟩
    | n + 12, hi => exact absurd hi (by simp)
  intro fr u own hsame hsn hall
  have q6 : fr.tmps.getD 6 undef = .pointer (some ⟨r, 0, none⟩) := finO (V := (VJ3 r B E Z0 n sc sa (ncells l))) hall 0 6 rfl
  have q7 : fr.tmps.getD 7 undef = .pointer (some ⟨r, 0, none⟩) := finO (V := (VJ3 r B E Z0 n sc sa (ncells l))) hall 1 7 rfl
  have q8 : fr.tmps.getD 8 undef = .pointer (some ⟨r, 1, none⟩) := finO (V := (VJ3 r B E Z0 n sc sa (ncells l))) hall 2 8 rfl
  have q9 : fr.tmps.getD 9 undef = .agg #[.int .u64 (B : Int), .int .u64 (E : Int)] := finO (V := (VJ3 r B E Z0 n sc sa (ncells l))) hall 3 9 rfl
  have q10 : fr.tmps.getD 10 undef = .pointer (some ⟨r, 0, none⟩) := finO (V := (VJ3 r B E Z0 n sc sa (ncells l))) hall 4 10 rfl
  have q11 : fr.tmps.getD 11 undef = .pointer (some ⟨r, 0, none⟩) := finO (V := (VJ3 r B E Z0 n sc sa (ncells l))) hall 5 11 rfl
  have q12 : fr.tmps.getD 12 undef = .pointer (some ⟨r, 3, none⟩) := finO (V := (VJ3 r B E Z0 n sc sa (ncells l))) hall 6 12 rfl
  have q13 : fr.tmps.getD 13 undef = .slice sa n sc := finO (V := (VJ3 r B E Z0 n sc sa (ncells l))) hall 7 13 rfl
  have m14 := finO (V := (VJ3 r B E Z0 n sc sa (ncells l))) hall 8 14 rfl
  obtain ⟨r14, q14⟩ : ∃ r, fr.tmps.getD 14 undef = r := ⟨_, rfl⟩
  rw [q14] at m14
  obtain ⟨z15, q15, m15⟩ := finO (V := (VJ3 r B E Z0 n sc sa (ncells l))) hall 9 15 rfl
  obtain ⟨g16, z16, q16, m16, l16, p16⟩ := finO (V := (VJ3 r B E Z0 n sc sa (ncells l))) hall 10 16 rfl
  obtain ⟨g2, z2, q2, m2, l2, p2⟩ := finO (V := (VJ3 r B E Z0 n sc sa (ncells l))) hall 11 2 rfl
  obtain rfl := frame_eq hsame [(6, .pointer (some ⟨r, 0, none⟩)), (7, .pointer (some ⟨r, 0, none⟩)), (8, .pointer (some ⟨r, 1, none⟩)), (9, .agg #[.int .u64 (B : Int), .int .u64 (E : Int)]), (10, .pointer (some ⟨r, 0, none⟩)), (11, .pointer (some ⟨r, 0, none⟩)), (12, .pointer (some ⟨r, 3, none⟩)), (13, .slice sa n sc), (14, r14), (15, .agg #[.bool true, .int .u64 (B : Int), .int .u64 (E : Int), z15]), (16, .pointer (some ⟨g16, 0, none⟩)), (2, .pointer (some ⟨g2, 0, none⟩))] (by kernel_rfl) ⟨q6, q7, q8, q9, q10, q11, q12, q13, q14, q15, q16, q2, trivial⟩
  clear hall hsame q6 q7 q8 q9 q10 q11 q12 q13 q14 q15 q16 q2
  simp only [List.foldl, List.setIfInBounds_toArray, List.set_cons_succ, List.set_cons_zero]
  have hb := hsn.below (B := W.heap.size) (fun _ _ => rfl) (Nat.le_refl _)
  have P2 := p2.1
  have K2 := K1.out.trans (hb.mono K1.out.size)
  have hh := R1.out.h32
  have M2 := m2.2
  have L2 := l2
  rw [HZ.out] at P2 L2
  rw [HN.out] at P2
  clear hb hsn m16 l16 p16 m15 m14 l2 p2 m2
  have P2 := Bx.mk P2; have K2 := Bx.mk K2; have HH := Bx.mk hh; have M2 := Bx.mk M2
  go_wp2_with fail
  go_ret
  exact ⟨g2, z2, rfl, ⟨M2.out, L2, P2.out, HH.out⟩, K2.out⟩
end Go.Proofs.YtgbafjmklefoiaaGreatDoor
