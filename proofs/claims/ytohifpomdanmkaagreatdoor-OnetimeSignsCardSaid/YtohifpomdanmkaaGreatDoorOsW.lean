/- cartularylaw22.OnetimeSigns walked. -/
import Derived.Test.YtohifpomdanmkaaGreatDoorOsR
import Derived.Test.YtohifpomdanmkaaGreatDoorBkHashK
import Derived.Test.YtohifpomdanmkaaGreatDoorBkHashJ
namespace Go.Proofs.YtohifpomdanmkaaGreatDoor
set_option maxRecDepth 100000
open Go.RowKit
theorem bhashes_any (base : Nat) (w : World) (b n : Nat) (l : Nat → Value) (m : Nat) (xs : List Value) (hB : BkP w b (n : Int) l) (hO : w.ownsRow base 71 3 (l 5) m xs) (hm : m ≤ 100000000) (hn : n ≤ 100000000) (hne : ∀ j, (l 5).ownBlock = some j → j ≠ b) (hbase : base ≤ w.heap.size) (va : Option Addr) (vn vc : Nat) :
    Calls Tryz.prog 9 #[.pointer (some ⟨b, 0, none⟩), .slice va vn vc] w fun e w' => e = .returned (.tuple #[]) ∧ ∃ x, BkP w' b ((n + 1 : Nat) : Int) (updK l 5 x) ∧ w'.ownsRow base 71 3 x (m + 1) (xs ++ hdcHash (.slice va vn vc, .slice none 0 0, ((n + 1 : Nat) : Int))) ∧ Keep (fun k => k = b ∨ (l 5).ownBlock = some k) w w' ∧ ∀ k, x.ownBlock = some k → k ≠ b ∧ ((l 5).ownBlock = some k ∨ w.heap.size ≤ k) := by
  have C := Bx.mk (keepHash_any base w b n l m xs hB hO hm hn hne hbase va vn vc)
  clear hB hO hm hn hne hbase
  go_enter Tryz.func9, Tryz.ntmps9
  go_wp2_with fail
  refine C.out.mono ?_
  rintro e w1 ⟨rfl, h⟩
  have H := Bx.mk h; clear h
  go_wp2_with fail
  go_end0
  exact ⟨rfl, H.out⟩
def twoV (a b : Value) : Nat → Value := fun i => if i = 0 then a else b
theorem hdRow2 (a b : Value) : hdRow (twoV a b) (fun _ => .slice none 0 0) (fun i => i + 1) 2 = [a, .slice none 0 0, .int .i64 1, b, .slice none 0 0, .int .i64 2] := rfl
theorem signs_end (u : World) (N : Nat) (hNu : N ≤ u.heap.size) (va vb : Value) (na nb : Nat) (xa xb : List Value) (s1 : Nat)
    (ha : u.ownsRow N 23 32 va na xa) (hbv : u.ownsRow N 23 32 vb nb xb) (h1 : ∀ j, va.ownBlock = some j → j < s1) (h2 : ∀ j, vb.ownBlock = some j → s1 ≤ j)
    (hl : na ≤ 100000000 ∧ nb ≤ 100000000) (b : Nat) (l : Nat → Value) (hB : BkP u b (2 : Int) l) (hR : u.ownsRow N 71 3 (l 5) 2 [va, .slice none 0 0, .int .i64 1, vb, .slice none 0 0, .int .i64 2]) (hz : ∀ i, i ≠ 5 → l i = .slice none 0 0)
    (hnb : ∀ j, (va.ownBlock = some j ∨ vb.ownBlock = some j) → j ≠ b ∧ (l 5).ownBlock ≠ some j) :
    Calls Tryz.prog 10 #[.pointer (some ⟨b, 0, none⟩)] u fun e w' => e = .returned (.bool true) ∧ Below N u w' := by
  have hL : BkL 5 71 23 32 N u b 2 l 2 (twoV va vb) (fun i => if i = 0 then na else nb) (fun i => if i = 0 then xa else xb) (fun _ => .slice none 0 0) (fun i => i + 1) := by
    refine ⟨hB, by rw [hdRow2]; exact hR, fun i hi => ?_, fun i hi j hj hij k e1 e2 => ?_, fun i hi k e => ?_, fun i _ => ⟨none, 0, 0, rfl⟩, by decide⟩
    · rcases (show i = 0 ∨ i = 1 by omega) with rfl | rfl
      · exact ha
      · exact hbv
    · rcases (show i = 0 ∨ i = 1 by omega) with rfl | rfl <;> rcases (show j = 0 ∨ j = 1 by omega) with rfl | rfl
      · exact hij rfl
      · have := h1 k e1; have := h2 k e2; omega
      · have := h2 k e1; have := h1 k e2; omega
      · exact hij rfl
    · rcases (show i = 0 ∨ i = 1 by omega) with rfl | rfl
      · exact hnb k (.inl e)
      · exact hnb k (.inr e)
  refine (apartHash_any N u b 2 l 2 _ _ _ _ _ hL hz hNu (by decide) (fun i hi => by rcases (show i = 0 ∨ i = 1 by omega) with rfl | rfl <;> exact ⟨by first | exact hl.1 | exact hl.2, by decide⟩)).mono ?_
  rintro e w' ⟨rfl, hk⟩
  exact ⟨rfl, hk.below (B := N) hNu (fun k hk => by
    rcases hk with ⟨i, hi, e⟩ | e
    · exact (ownsRow_ge (hL.li i hi) k e)
    · exact (ownsRow_ge hL.row k e))⟩
def VOs (_N ga gb cw : Nat) (aw : Option Addr) (s pb : List UInt8) (oi : Nat) (v : Value) (_own : Nat → Option Nat) (_w : World) : Prop :=
  match oi with
  | 0 => v = .slice (some ⟨ga, 0, none⟩) 67 67
  | 1 => v = .slice aw 67 cw
  | 2 => v = .bool true
  | 3 => v = .bool false
  | 4 => v = .bool false
  | 5 => v = .slice (some ⟨gb, 0, none⟩) 67 67
  | 6 => v = .slice aw 67 cw
  | 7 => v = .bool true
  | 8 => v = .bool false
  | 9 => v = .bool false
  | 10 => v = .bool false
  | 11 => v = .agg (ocells (s))
  | 12 => v = .agg (ocells (pb))
  | 13 => v = .agg (ocells (s))
  | 14 => v = .agg (ocells (pb))
  | 15 => v = .bool false
  | 16 => v = .bool false
  | _ => True
def VOsmk : Nat → Option Nat := fun _ => none
theorem VOs_mono (N ga gb cw : Nat) (aw : Option Addr) (s pb : List UInt8) (oi oj : Nat) (v : Value) (own : Nat → Option Nat) (w : World) (own' : Nat → Option Nat) (w' : World) (hij : oi ≠ oj)   (h : VOs N ga gb cw aw s pb oj v own w) (_r : Rel VOsmk oi own w own' w') : VOs N ga gb cw aw s pb oj v own' w' := by
  unfold VOs at h ⊢
  split at h
  · exact h
  · exact h
  · exact h
  · exact h
  · exact h
  · exact h
  · exact h
  · exact h
  · exact h
  · exact h
  · exact h
  · exact h
  · exact h
  · exact h
  · exact h
  · exact h
  · exact h
  · trivial

set_option maxHeartbeats 6400000 in
theorem signs_any (w : World) (s m : List UInt8) (hs : s.length = 32) (hm : m.length = 32) (hT : TabS w) :
    Calls Tryz.prog 3 #[hv s, hv m] w fun e w' => e = .returned (.bool true) ∧ Below w.heap.size w w' := by
  have x0 := (HashAt.new w s hs).below (er_al (Below.refl _ _) (.cells (ocells m) 23))
  have x1 := HashAt.new (w.alloc (.cells (ocells s) 23)) m hm
  rw [show (w.alloc (.cells (ocells s) 23)).heap.size = w.heap.size + 1 by simp] at x1
  have kb : Below w.heap.size w ((w.alloc (.cells (ocells s) 23)).alloc (.cells (ocells m) 23)) := er_al (er_al (Below.refl _ _) _) _
  have SL := Bx.mk hs; have ML := Bx.mk hm; have HT := Bx.mk hT
  clear hs hm hT
  unfold hv
  go_enter Tryz.func3, Tryz.ntmps3
  go_upto_region 1 with (fail)
  change Code.wp _ _ _ _ ((w.alloc (.cells (ocells s) 23)).alloc (.cells (ocells m) 23))
  generalize (w.alloc (.cells (ocells s) 23)).alloc (.cells (ocells m) 23) = W at x0 x1 kb ⊢
  obtain ⟨N, hN⟩ : ∃ N, N = w.heap.size := ⟨_, rfl⟩
  rw [← hN] at x0 x1 kb ⊢
  have X0 := Bx.mk x0; have X1 := Bx.mk x1; have KB := Bx.mk kb; have HN := Bx.mk hN
  have NW := Bx.mk (show N ≤ W.heap.size by have := x0.lt; omega)
  clear x0 x1 kb hN
  obtain ⟨ls, hls⟩ : ∃ ls, ls = rowOf (signB s m) 67 := ⟨_, rfl⟩
  have LL : Bx (ls.length = 67) := ⟨by rw [hls]; exact rowOf_length _ _⟩
  have LM : Bx (∀ x ∈ ls, x.length = 32) := ⟨by rw [hls]; exact rowOf_memS (fun i _ => signB_length s m i)⟩
  have RS : Bx (∀ u, Calls Tryz.prog 4 #[.agg (ocells s), .agg (ocells m)] u fun e w' => ∃ v, e = .returned v ∧ w'.ownsRow u.heap.size 23 32 v 67 (hcells ls) ∧ Below u.heap.size u w') := ⟨fun u => by rw [hls]; exact rsign_any u s m SL.out ML.out⟩
  have OS : Bx (∀ u, TabS u → Calls Tryz.prog 5 #[.agg (ocells s), .agg (ocells m)] u fun e w' => ∃ g, e = .returned (.slice (some ⟨g, 0, none⟩) 67 67) ∧ u.heap.size ≤ g ∧ w'.ownsRow u.heap.size 23 32 (.slice (some ⟨g, 0, none⟩) 67 67) 67 (hcells ls) ∧ Below u.heap.size u w') := ⟨fun u hu => (sign_any u s m SL.out ML.out hu).mono fun e w' ⟨g, he, hg, hS, hb⟩ => ⟨g, he, hg, by rw [hls]; exact hS.own (rowOf_length _ _) hg, hb⟩⟩
  obtain ⟨pb, hpb⟩ : ∃ pb, pb = publicB s := ⟨_, rfl⟩
  have PL : Bx (pb.length = 32) := ⟨by rw [hpb]; exact sha_length _⟩
  have RP : Bx (∀ u, Calls Tryz.prog 8 #[.agg (ocells s)] u fun e w' => e = .returned (.agg (ocells pb)) ∧ Below u.heap.size u w') := ⟨fun u => by rw [hpb]; exact rpublic_any u s SL.out⟩
  have OP : Bx (∀ u, TabS u → Calls Tryz.prog 7 #[.agg (ocells s)] u fun e w' => e = .returned (.agg (ocells pb)) ∧ Below u.heap.size u w') := ⟨fun u hu => by rw [hpb]; exact public_any u s SL.out hu⟩
  have SH : Bx (∀ u a1 n1 c1 a2 n2 c2 b1 b2, u.ownsRow b1 23 32 (.slice a1 n1 c1) 67 (hcells ls) → u.ownsRow b2 23 32 (.slice a2 n2 c2) 67 (hcells ls) → Calls Tryz.prog 6 #[.slice a1 n1 c1, .slice a2 n2 c2] u fun e w' => e = .returned (.bool true) ∧ Below u.heap.size u w') := ⟨fun u a1 n1 c1 a2 n2 c2 b1 b2 h1 h2 => by
    have h := same_any u a1 n1 c1 ls a2 n2 c2 ls (hss_own h1 LM.out LL.out.symm) (hss_own h2 LM.out LL.out.symm)
    rw [beq_self_eq_true] at h
    exact h⟩
  clear hls hpb
  have TB : Bx (∀ u, Below N w u → TabS u) := ⟨fun u hu => HT.out.below (by rw [← HN.out]; exact hu)⟩
  go_wp2_with (first | (guard_target =~ wpList _ _ _ (⟨some 9, _, _, _, _, _⟩ :: _) _ _; refine wpList_load_row rfl 23 (.tmp 2) rfl N rfl _ _ _ _ X0.out.1 underH rfl (hszL SL.out) ?_) | (guard_target =~ wpList _ _ _ (⟨some 10, _, _, _, _, _⟩ :: _) _ _; refine wpList_load_row rfl 23 (.tmp 3) rfl (N + 1) rfl _ _ _ _ X1.out.1 underH rfl (hszL ML.out) ?_))
  refine (RS.out W).mono ?_
  rintro e W1 ⟨vw, rfl, ho, hb⟩
  obtain ⟨aw, cw, rfl, -, -, -⟩ := own_shapeK ho
  have OW := Bx.mk ho; have K1 := Bx.mk (KB.out.trans (hb.mono NW.out)); have X0b := Bx.mk (X0.out.below hb); have X1b := Bx.mk (X1.out.below hb); have N1 := Bx.mk (Nat.le_trans NW.out hb.size)
  clear ho hb X0 X1
  have X0 := X0b; have X1 := X1b
  clear X0b X1b
  go_wp2_with (first | (guard_target =~ wpList _ _ _ (⟨some 12, _, _, _, _, _⟩ :: _) _ _; refine wpList_load_row rfl 23 (.tmp 2) rfl N rfl _ _ _ _ X0.out.1 underH rfl (hszL SL.out) ?_) | (guard_target =~ wpList _ _ _ (⟨some 13, _, _, _, _, _⟩ :: _) _ _; refine wpList_load_row rfl 23 (.tmp 3) rfl (N + 1) rfl _ _ _ _ X1.out.1 underH rfl (hszL ML.out) ?_))
  refine (OS.out W1 (TB.out W1 K1.out)).mono ?_
  rintro e W2 ⟨ga, rfl, hga, ho, hb⟩
  have OA := Bx.mk ho; have K2 := Bx.mk (K1.out.trans (hb.mono N1.out)); have X0b := Bx.mk (X0.out.below hb); have X1b := Bx.mk (X1.out.below hb); have N2 := Bx.mk (Nat.le_trans N1.out hb.size)
  have OW2 := Bx.mk (ownsRow_keep' OW.out fun j hj => hb.block j (ownsRow_lt OW.out j hj))
  have LA := Bx.mk (ownsRow_lt ho ga rfl)
  have GA := Bx.mk (Nat.le_trans N1.out hga)
  clear ho hb X0 X1 OW hga
  have X0 := X0b; have X1 := X1b
  clear X0b X1b
  go_wp2_with (first | (guard_target =~ wpList _ _ _ (⟨some 15, _, _, _, _, _⟩ :: _) _ _; refine wpList_load_row rfl 23 (.tmp 2) rfl N rfl _ _ _ _ X0.out.1 underH rfl (hszL SL.out) ?_) | (guard_target =~ wpList _ _ _ (⟨some 16, _, _, _, _, _⟩ :: _) _ _; refine wpList_load_row rfl 23 (.tmp 3) rfl (N + 1) rfl _ _ _ _ X1.out.1 underH rfl (hszL ML.out) ?_))
  refine (OS.out W2 (TB.out W2 K2.out)).mono ?_
  rintro e W3 ⟨gb, rfl, hgb, ho, hb⟩
  have OB := Bx.mk ho; have K3 := Bx.mk (K2.out.trans (hb.mono N2.out)); have X0b := Bx.mk (X0.out.below hb); have N3 := Bx.mk (Nat.le_trans N2.out hb.size)
  have OW3 := Bx.mk (ownsRow_keep' OW2.out fun j hj => hb.block j (ownsRow_lt OW2.out j hj))
  have OA3 := Bx.mk (ownsRow_keep' OA.out fun j hj => hb.block j (ownsRow_lt OA.out j hj))
  have GB := Bx.mk hgb
  clear ho hb X0 X1 OW2 OA hgb
  have X0 := X0b
  clear X0b
  have CA : Bx (∀ u, Below W3.heap.size W3 u → Calls Tryz.prog 6 #[.slice (some ⟨ga, 0, none⟩) 67 67, .slice aw 67 cw] u fun e w' => e = .returned (.bool true) ∧ Below u.heap.size u w') := ⟨fun u hu => SH.out u _ _ _ _ _ _ _ _ (ownsRow_keep' OA3.out fun j hj => hu.block j (ownsRow_lt OA3.out j hj)) (ownsRow_keep' OW3.out fun j hj => hu.block j (ownsRow_lt OW3.out j hj))⟩
  have CB : Bx (∀ u, Below W3.heap.size W3 u → Calls Tryz.prog 6 #[.slice (some ⟨gb, 0, none⟩) 67 67, .slice aw 67 cw] u fun e w' => e = .returned (.bool true) ∧ Below u.heap.size u w') := ⟨fun u hu => SH.out u _ _ _ _ _ _ _ _ (ownsRow_keep' OB.out fun j hj => hu.block j (ownsRow_lt OB.out j hj)) (ownsRow_keep' OW3.out fun j hj => hu.block j (ownsRow_lt OW3.out j hj))⟩
  have CP : Bx (∀ u, Below W3.heap.size W3 u → Calls Tryz.prog 7 #[.agg (ocells s)] u fun e w' => e = .returned (.agg (ocells pb)) ∧ Below u.heap.size u w') := ⟨fun u hu => OP.out u (TB.out u (K3.out.trans (hu.mono N3.out)))⟩
  have CR : Bx (∀ u, Below W3.heap.size W3 u → Calls Tryz.prog 8 #[.agg (ocells s)] u fun e w' => e = .returned (.agg (ocells pb)) ∧ Below u.heap.size u w') := ⟨fun u _ => RP.out u⟩
  go_upto_region 4 with (fail)
  refine wp_region_own8 (n := 45) VOsmk (fun _ => none) (VOs N ga gb cw aw s pb) (by kernel_rfl) (by kernel_rfl) rfl (fun _ _ => rfl) (fun j i hj _ => by cases hj) ?_ ?_ ?_
  · exact fun oi oj v own w own' w' hij _ h r => VOs_mono N ga gb cw aw s pb oi oj v own w own' w' hij h r
  · intro oi o hi f u own hsame hsn hfr hlate hkeep8 hdep
    have hkeep := hkeep8 _ (.inl rfl)
    have hb6 := hsn.below (B := W3.heap.size) (fun _ _ => rfl) (Nat.le_refl _)
    match oi, hi with
    | 0, hi =>
      cases (show some _ = some o from hi)
      have e6 : f.tmps.getD 6 undef = .slice (some ⟨ga, 0, none⟩) 67 67 := hsame.slot 6 (fun i o h => invB2_not 6 (by kernel_rfl) h)
      clear hdep hsame hi hlate hfr hkeep
      exact .inl ⟨wanted_none rfl, showsO_move hsn rfl _ rfl e6⟩
    | 1, hi =>
      cases (show some _ = some o from hi)
      have e5 : f.tmps.getD 5 undef = .slice aw 67 cw := hsame.slot 5 (fun i o h => invB2_not 5 (by kernel_rfl) h)
      clear hdep hsame hi hlate hfr hkeep
      exact .inl ⟨wanted_none rfl, showsO_move hsn rfl _ rfl e5⟩
    | 2, hi =>
      cases (show some _ = some o from hi)
      have e18 : (f.tmps.getD 18 undef) = .slice (some ⟨ga, 0, none⟩) 67 67 := depO (V := (VOs N ga gb cw aw s pb)) hdep 0 18 (by kernel_rfl) (by kernel_rfl)
      have e19 : (f.tmps.getD 19 undef) = .slice aw 67 cw := depO (V := (VOs N ga gb cw aw s pb)) hdep 1 19 (by kernel_rfl) (by kernel_rfl)
      clear hdep hsame hi hlate hfr hkeep
      have c := CA.out u hb6
      exact .inl ⟨wanted_none rfl, showsO_call1 hsn rfl 6 #[.slice (some ⟨ga, 0, none⟩) 67 67, .slice aw 67 cw] (by simp only [execOp, Act.eval]; go_simp) (c) (fun _ => rfl)⟩
    | 3, hi =>
      cases (show some _ = some o from hi)
      have e20 : (f.tmps.getD 20 undef) = .bool true := depO (V := (VOs N ga gb cw aw s pb)) hdep 2 20 (by kernel_rfl) (by kernel_rfl)
      clear hdep hsame hi hlate hfr hkeep
      exact .inl ⟨wanted_none rfl, showsO_pure hsn rfl (.bool false) (by simp only [execOp, Act.eval]; go_simp) rfl⟩
    | 4, hi =>
      cases (show some _ = some o from hi)
      have e21 : (f.tmps.getD 21 undef) = .bool false := depO (V := (VOs N ga gb cw aw s pb)) hdep 3 21 (by kernel_rfl) (by kernel_rfl)
      clear hdep hsame hi hlate hfr hkeep
      exact .inl ⟨wanted_none rfl, showsO_move hsn rfl _ rfl e21⟩
    | 5, hi =>
      cases (show some _ = some o from hi)
      have e7 : f.tmps.getD 7 undef = .slice (some ⟨gb, 0, none⟩) 67 67 := hsame.slot 7 (fun i o h => invB2_not 7 (by kernel_rfl) h)
      have eg : f.tmps.getD 22 undef = .bool false := depO (V := (VOs N ga gb cw aw s pb)) hdep 4 22 (by kernel_rfl) (by kernel_rfl)
      clear hdep hsame hi hlate hfr hkeep
      exact .inl ⟨wanted_of 4 rfl eg (by kernel_rfl), showsO_move hsn rfl _ rfl e7⟩
    | 6, hi =>
      cases (show some _ = some o from hi)
      have e5 : f.tmps.getD 5 undef = .slice aw 67 cw := hsame.slot 5 (fun i o h => invB2_not 5 (by kernel_rfl) h)
      have eg : f.tmps.getD 22 undef = .bool false := depO (V := (VOs N ga gb cw aw s pb)) hdep 4 22 (by kernel_rfl) (by kernel_rfl)
      clear hdep hsame hi hlate hfr hkeep
      exact .inl ⟨wanted_of 4 rfl eg (by kernel_rfl), showsO_move hsn rfl _ rfl e5⟩
    | 7, hi =>
      cases (show some _ = some o from hi)
      have e23 : (f.tmps.getD 23 undef) = .slice (some ⟨gb, 0, none⟩) 67 67 := depO (V := (VOs N ga gb cw aw s pb)) hdep 5 23 (by kernel_rfl) (by kernel_rfl)
      have e24 : (f.tmps.getD 24 undef) = .slice aw 67 cw := depO (V := (VOs N ga gb cw aw s pb)) hdep 6 24 (by kernel_rfl) (by kernel_rfl)
      have eg : f.tmps.getD 22 undef = .bool false := depO (V := (VOs N ga gb cw aw s pb)) hdep 4 22 (by kernel_rfl) (by kernel_rfl)
      clear hdep hsame hi hlate hfr hkeep
      have c := CB.out u hb6
      exact .inl ⟨wanted_of 4 rfl eg (by kernel_rfl), showsO_call1 hsn rfl 6 #[.slice (some ⟨gb, 0, none⟩) 67 67, .slice aw 67 cw] (by simp only [execOp, Act.eval]; go_simp) (c) (fun _ => rfl)⟩
    | 8, hi =>
      cases (show some _ = some o from hi)
      have e25 : (f.tmps.getD 25 undef) = .bool true := depO (V := (VOs N ga gb cw aw s pb)) hdep 7 25 (by kernel_rfl) (by kernel_rfl)
      have eg : f.tmps.getD 22 undef = .bool false := depO (V := (VOs N ga gb cw aw s pb)) hdep 4 22 (by kernel_rfl) (by kernel_rfl)
      clear hdep hsame hi hlate hfr hkeep
      exact .inl ⟨wanted_of 4 rfl eg (by kernel_rfl), showsO_pure hsn rfl (.bool false) (by simp only [execOp, Act.eval]; go_simp) rfl⟩
    | 9, hi =>
      cases (show some _ = some o from hi)
      have e22 : (f.tmps.getD 22 undef) = .bool false := depO (V := (VOs N ga gb cw aw s pb)) hdep 4 22 (by kernel_rfl) (by kernel_rfl)
      have e26 : (f.tmps.getD 26 undef) = .bool false := depO (V := (VOs N ga gb cw aw s pb)) hdep 8 26 (by kernel_rfl) (by kernel_rfl)
      clear hdep hsame hi hlate hfr hkeep
      exact .inl ⟨wanted_none rfl, showsO_pure hsn rfl (.bool false) (by simp only [execOp, Act.eval]; go_simp) rfl⟩
    | 10, hi =>
      cases (show some _ = some o from hi)
      have e27 : (f.tmps.getD 27 undef) = .bool false := depO (V := (VOs N ga gb cw aw s pb)) hdep 9 27 (by kernel_rfl) (by kernel_rfl)
      clear hdep hsame hi hlate hfr hkeep
      exact .inl ⟨wanted_none rfl, showsO_move hsn rfl _ rfl e27⟩
    | 11, hi =>
      cases (show some _ = some o from hi)
      have e2 : f.tmps.getD 2 undef = .pointer (some ⟨N, 0, none⟩) := hsame.slot 2 (fun i o h => invB2_not 2 (by kernel_rfl) h)
      have eg : f.tmps.getD 28 undef = .bool false := depO (V := (VOs N ga gb cw aw s pb)) hdep 10 28 (by kernel_rfl) (by kernel_rfl)
      clear hdep hsame hi hlate hfr hkeep
      exact .inl ⟨wanted_of 10 rfl eg (by kernel_rfl), showsO_row hsn rfl 23 (.tmp 2) rfl N e2 (ocells (s)) ((hb6.block _ (Array.getElem?_eq_some_iff.1 X0.out.1).1).trans X0.out.1) underH rfl (hszL SL.out) rfl⟩
    | 12, hi =>
      cases (show some _ = some o from hi)
      have e29 : (f.tmps.getD 29 undef) = .agg (ocells (s)) := depO (V := (VOs N ga gb cw aw s pb)) hdep 11 29 (by kernel_rfl) (by kernel_rfl)
      have eg : f.tmps.getD 28 undef = .bool false := depO (V := (VOs N ga gb cw aw s pb)) hdep 10 28 (by kernel_rfl) (by kernel_rfl)
      clear hdep hsame hi hlate hfr hkeep
      have c := CP.out u hb6
      exact .inl ⟨wanted_of 10 rfl eg (by kernel_rfl), showsO_call1 hsn rfl 7 #[.agg (ocells (s))] (by simp only [execOp, Act.eval]; go_simp) (c) (fun _ => rfl)⟩
    | 13, hi =>
      cases (show some _ = some o from hi)
      have e2 : f.tmps.getD 2 undef = .pointer (some ⟨N, 0, none⟩) := hsame.slot 2 (fun i o h => invB2_not 2 (by kernel_rfl) h)
      have eg : f.tmps.getD 28 undef = .bool false := depO (V := (VOs N ga gb cw aw s pb)) hdep 10 28 (by kernel_rfl) (by kernel_rfl)
      clear hdep hsame hi hlate hfr hkeep
      exact .inl ⟨wanted_of 10 rfl eg (by kernel_rfl), showsO_row hsn rfl 23 (.tmp 2) rfl N e2 (ocells (s)) ((hb6.block _ (Array.getElem?_eq_some_iff.1 X0.out.1).1).trans X0.out.1) underH rfl (hszL SL.out) rfl⟩
    | 14, hi =>
      cases (show some _ = some o from hi)
      have e31 : (f.tmps.getD 31 undef) = .agg (ocells (s)) := depO (V := (VOs N ga gb cw aw s pb)) hdep 13 31 (by kernel_rfl) (by kernel_rfl)
      have eg : f.tmps.getD 28 undef = .bool false := depO (V := (VOs N ga gb cw aw s pb)) hdep 10 28 (by kernel_rfl) (by kernel_rfl)
      clear hdep hsame hi hlate hfr hkeep
      have c := CR.out u hb6
      exact .inl ⟨wanted_of 10 rfl eg (by kernel_rfl), showsO_call1 hsn rfl 8 #[.agg (ocells (s))] (by simp only [execOp, Act.eval]; go_simp) (c) (fun _ => rfl)⟩
    | 15, hi =>
      cases (show some _ = some o from hi)
      have e30 : (f.tmps.getD 30 undef) = .agg (ocells (pb)) := depO (V := (VOs N ga gb cw aw s pb)) hdep 12 30 (by kernel_rfl) (by kernel_rfl)
      have e32 : (f.tmps.getD 32 undef) = .agg (ocells (pb)) := depO (V := (VOs N ga gb cw aw s pb)) hdep 14 32 (by kernel_rfl) (by kernel_rfl)
      have eg : f.tmps.getD 28 undef = .bool false := depO (V := (VOs N ga gb cw aw s pb)) hdep 10 28 (by kernel_rfl) (by kernel_rfl)
      clear hdep hsame hi hlate hfr hkeep
      have q := fun u => hv_neq u (pb) (pb) PL.out PL.out
      simp only [hv_agg, beq_self_eq_true, Bool.not_true] at q
      exact .inl ⟨wanted_of 10 rfl eg (by kernel_rfl), showsO_pure hsn rfl (.bool false) (by simp only [execOp, Act.eval]; go_simp) rfl⟩
    | 16, hi =>
      cases (show some _ = some o from hi)
      have e28 : (f.tmps.getD 28 undef) = .bool false := depO (V := (VOs N ga gb cw aw s pb)) hdep 10 28 (by kernel_rfl) (by kernel_rfl)
      have e33 : (f.tmps.getD 33 undef) = .bool false := depO (V := (VOs N ga gb cw aw s pb)) hdep 15 33 (by kernel_rfl) (by kernel_rfl)
      clear hdep hsame hi hlate hfr hkeep
      exact .inl ⟨wanted_none rfl, showsO_pure hsn rfl (.bool false) (by simp only [execOp, Act.eval]; go_simp) rfl⟩
    | n + 17, hi => exact absurd hi (by simp)
  intro f u4 own hsame hsn hall
  have q18 : f.tmps.getD 18 undef = .slice (some ⟨ga, 0, none⟩) 67 67 := finO (V := (VOs N ga gb cw aw s pb)) hall 0 18 rfl
  have q19 : f.tmps.getD 19 undef = .slice aw 67 cw := finO (V := (VOs N ga gb cw aw s pb)) hall 1 19 rfl
  have q20 : f.tmps.getD 20 undef = .bool true := finO (V := (VOs N ga gb cw aw s pb)) hall 2 20 rfl
  have q21 : f.tmps.getD 21 undef = .bool false := finO (V := (VOs N ga gb cw aw s pb)) hall 3 21 rfl
  have q22 : f.tmps.getD 22 undef = .bool false := finO (V := (VOs N ga gb cw aw s pb)) hall 4 22 rfl
  have q23 : f.tmps.getD 23 undef = .slice (some ⟨gb, 0, none⟩) 67 67 := finO (V := (VOs N ga gb cw aw s pb)) hall 5 23 rfl
  have q24 : f.tmps.getD 24 undef = .slice aw 67 cw := finO (V := (VOs N ga gb cw aw s pb)) hall 6 24 rfl
  have q25 : f.tmps.getD 25 undef = .bool true := finO (V := (VOs N ga gb cw aw s pb)) hall 7 25 rfl
  have q26 : f.tmps.getD 26 undef = .bool false := finO (V := (VOs N ga gb cw aw s pb)) hall 8 26 rfl
  have q27 : f.tmps.getD 27 undef = .bool false := finO (V := (VOs N ga gb cw aw s pb)) hall 9 27 rfl
  have q28 : f.tmps.getD 28 undef = .bool false := finO (V := (VOs N ga gb cw aw s pb)) hall 10 28 rfl
  have q29 : f.tmps.getD 29 undef = .agg (ocells (s)) := finO (V := (VOs N ga gb cw aw s pb)) hall 11 29 rfl
  have q30 : f.tmps.getD 30 undef = .agg (ocells (pb)) := finO (V := (VOs N ga gb cw aw s pb)) hall 12 30 rfl
  have q31 : f.tmps.getD 31 undef = .agg (ocells (s)) := finO (V := (VOs N ga gb cw aw s pb)) hall 13 31 rfl
  have q32 : f.tmps.getD 32 undef = .agg (ocells (pb)) := finO (V := (VOs N ga gb cw aw s pb)) hall 14 32 rfl
  have q33 : f.tmps.getD 33 undef = .bool false := finO (V := (VOs N ga gb cw aw s pb)) hall 15 33 rfl
  have q34 : f.tmps.getD 34 undef = .bool false := finO (V := (VOs N ga gb cw aw s pb)) hall 16 34 rfl
  obtain rfl := frame_eq hsame [(18, .slice (some ⟨ga, 0, none⟩) 67 67), (19, .slice aw 67 cw), (20, .bool true), (21, .bool false), (22, .bool false), (23, .slice (some ⟨gb, 0, none⟩) 67 67), (24, .slice aw 67 cw), (25, .bool true), (26, .bool false), (27, .bool false), (28, .bool false), (29, .agg (ocells (s))), (30, .agg (ocells (pb))), (31, .agg (ocells (s))), (32, .agg (ocells (pb))), (33, .bool false), (34, .bool false)] (by kernel_rfl) ⟨q18, q19, q20, q21, q22, q23, q24, q25, q26, q27, q28, q29, q30, q31, q32, q33, q34, trivial⟩
  clear hall hsame q18 q19 q20 q21 q22 q23 q24 q25 q26 q27 q28 q29 q30 q31 q32 q33 q34
  simp only [List.foldl, List.setIfInBounds_toArray, List.set_cons_succ, List.set_cons_zero]
  have hb := hsn.below (B := W3.heap.size) (fun _ _ => rfl) (Nat.le_refl _)
  have K4 := Bx.mk (K3.out.trans (hb.mono N3.out)); have N4 := Bx.mk (Nat.le_trans N3.out hb.size)
  have OA4 := Bx.mk (ownsRow_mono (ownsRow_keep' OA3.out fun j hj => hb.block j (ownsRow_lt OA3.out j hj)) N1.out)
  have OB4 := Bx.mk (ownsRow_mono (ownsRow_keep' OB.out fun j hj => hb.block j (ownsRow_lt OB.out j hj)) N2.out)
  have GBL := Bx.mk (ownsRow_lt OB4.out gb rfl)
  have GAL := Bx.mk (ownsRow_lt OA4.out ga rfl)
  clear hb hsn CA CB CP CR
  go_upto_region 7 with (fail)
  have b9 := er_al (Below.refl u4.heap.size u4) (.cells #[.int .i64 0, .slice none 0 0, .slice none 0 0, .slice none 0 0, .slice none 0 0, .slice none 0 0, .slice none 0 0, .slice none 0 0, .slice none 0 0, .slice none 0 0, .slice none 0 0, .slice none 0 0, .slice none 0 0, .slice none 0 0, .slice none 0 0, .slice none 0 0, .slice none 0 0] 46)
  have p9 := heap_alloc_new u4 (.cells #[.int .i64 0, .slice none 0 0, .slice none 0 0, .slice none 0 0, .slice none 0 0, .slice none 0 0, .slice none 0 0, .slice none 0 0, .slice none 0 0, .slice none 0 0, .slice none 0 0, .slice none 0 0, .slice none 0 0, .slice none 0 0, .slice none 0 0, .slice none 0 0, .slice none 0 0] 46)
  change Code.wp _ _ _ _ (u4.alloc (.cells #[.int .i64 0, .slice none 0 0, .slice none 0 0, .slice none 0 0, .slice none 0 0, .slice none 0 0, .slice none 0 0, .slice none 0 0, .slice none 0 0, .slice none 0 0, .slice none 0 0, .slice none 0 0, .slice none 0 0, .slice none 0 0, .slice none 0 0, .slice none 0 0, .slice none 0 0] 46))
  obtain ⟨b, hbk⟩ : ∃ b, b = u4.heap.size := ⟨_, rfl⟩
  rw [← hbk] at p9 ⊢
  generalize u4.alloc (.cells #[.int .i64 0, .slice none 0 0, .slice none 0 0, .slice none 0 0, .slice none 0 0, .slice none 0 0, .slice none 0 0, .slice none 0 0, .slice none 0 0, .slice none 0 0, .slice none 0 0, .slice none 0 0, .slice none 0 0, .slice none 0 0, .slice none 0 0, .slice none 0 0, .slice none 0 0] 46) = W5 at b9 p9 ⊢
  have K5 := Bx.mk (K4.out.trans (b9.mono N4.out)); have N5 := Bx.mk (Nat.le_trans N4.out b9.size)
  have OA5 := Bx.mk (ownsRow_keep' OA4.out fun j hj => b9.block j (ownsRow_lt OA4.out j hj))
  have OB5 := Bx.mk (ownsRow_keep' OB4.out fun j hj => b9.block j (ownsRow_lt OB4.out j hj))
  have P5 : Bx (BkP W5 b ((0 : Nat) : Int) (fun _ => .slice none 0 0)) := ⟨⟨p9⟩⟩
  have BK := Bx.mk hbk
  have BL := Bx.mk (Array.getElem?_eq_some_iff.1 p9).1
  clear b9 p9 hbk
  go_wp2_with fail
  refine (bhashes_any N W5 b 0 (fun _ => .slice none 0 0) 0 [] P5.out (show W5.ownsRow N 71 3 ((fun _ => .slice none 0 0 : Nat → Value) 5) 0 [] from World.ownsRow_nil _ _ _ _) (by decide) (by decide) (fun j hj => by cases hj) N5.out _ _ _).mono ?_
  rintro e W6 ⟨rfl, x6, hP, hO, hk, hx⟩
  have N6 := Bx.mk (Nat.le_trans N5.out hk.size)
  have K6 := Bx.mk (K5.out.trans (hk.below (B := N) N5.out (fun k hk => by
    rcases hk with rfl | e
    · have h1 := BK.out; have h2 := N4.out; omega
    · cases e)))
  have OA6 := Bx.mk (ownsRow_keep' OA5.out fun j hj => hk.block j (ownsRow_lt OA5.out j hj) (fun e => by
    obtain rfl : ga = j := by simpa [Value.ownBlock] using hj
    rcases e with e | e
    · have h1 := BK.out; have h2 := GAL.out; omega
    · cases e))
  have OB6 := Bx.mk (ownsRow_keep' OB5.out fun j hj => hk.block j (ownsRow_lt OB5.out j hj) (fun e => by
    obtain rfl : gb = j := by simpa [Value.ownBlock] using hj
    rcases e with e | e
    · have h1 := BK.out; have h2 := GBL.out; omega
    · cases e))
  have P6 := Bx.mk hP; have O6 := Bx.mk hO
  have X6 := Bx.mk (fun k hk => And.intro (hx k hk).1 (show u4.heap.size < k by
    rcases (hx k hk).2 with h | h
    · cases h
    · have h1 := BK.out; have h2 := BL.out; omega))
  have KS := Bx.mk hk.size
  clear hP hO hk hx
  go_wp2_with fail
  refine (bhashes_any N W6 b 1 (updK (fun _ => .slice none 0 0) 5 x6) 1 _ P6.out O6.out (by decide) (by decide) (fun j hj => (X6.out j hj).1) N6.out _ _ _).mono ?_
  rintro e W7 ⟨rfl, x7, hP, hO, hk, hx⟩
  have N7 := Bx.mk (Nat.le_trans N6.out hk.size)
  have K7 := Bx.mk (K6.out.trans (hk.below (B := N) N6.out (fun k hk => by
    rcases hk with rfl | e
    · have h1 := BK.out; have h2 := N4.out; omega
    · exact ownsRow_ge O6.out k e)))
  have OA7 := Bx.mk (ownsRow_keep' OA6.out fun j hj => hk.block j (ownsRow_lt OA6.out j hj) (fun e => by
    obtain rfl : ga = j := by simpa [Value.ownBlock] using hj
    have h2 := GAL.out
    rcases e with e | e
    · have h1 := BK.out; omega
    · have := (X6.out _ e).2; omega))
  have OB7 := Bx.mk (ownsRow_keep' OB6.out fun j hj => hk.block j (ownsRow_lt OB6.out j hj) (fun e => by
    obtain rfl : gb = j := by simpa [Value.ownBlock] using hj
    have h2 := GBL.out
    rcases e with e | e
    · have h1 := BK.out; omega
    · have := (X6.out _ e).2; omega))
  have X7 := Bx.mk (fun k hk => And.intro (hx k hk).1 (show u4.heap.size < k by
    rcases (hx k hk).2 with h | h
    · exact (X6.out k h).2
    · have h1 := BK.out; have h2 := BL.out; have h3 := KS.out; omega))
  have CE := Bx.mk (signs_end W7 N N7.out (.slice (some ⟨ga, 0, none⟩) 67 67) (.slice (some ⟨gb, 0, none⟩) 67 67) 67 67 _ _ W2.heap.size OA7.out OB7.out
    (fun j hj => by obtain rfl : ga = j := by simpa [Value.ownBlock] using hj
                    exact LA.out) (fun j hj => by obtain rfl : gb = j := by simpa [Value.ownBlock] using hj
                                                  exact GB.out) ⟨by decide, by decide⟩ b (updK (updK (fun _ => .slice none 0 0) 5 x6) 5 x7) hP hO
    (fun i hi => by unfold updK; rw [if_neg hi, if_neg hi])
    (fun j hj => by
      have hlt : j < u4.heap.size := by
        rcases hj with hj | hj
        · exact ownsRow_lt OA4.out j hj
        · exact ownsRow_lt OB4.out j hj
      have h1 := BK.out
      exact ⟨by omega, fun e => by have := (X7.out j e).2; omega⟩))
  clear hP hO hk hx
  go_wp2_with fail
  refine CE.out.mono ?_
  rintro e W8 ⟨rfl, hb⟩
  have KE := Bx.mk (K7.out.trans hb)
  clear hb
  go_wp2_with fail
  go_ret
  exact ⟨rfl, by rw [← HN.out]; exact KE.out⟩
end Go.Proofs.YtohifpomdanmkaaGreatDoor
