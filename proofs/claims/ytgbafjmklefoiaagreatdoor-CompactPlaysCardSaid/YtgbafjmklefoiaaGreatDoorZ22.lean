/- cartularyref09: settle, Append. -/
import Derived.Test.YtgbafjmklefoiaaGreatDoorZ21
import Derived.Test.YtgbafjmklefoiaaGreatDoorZ12
namespace Go.Proofs.YtgbafjmklefoiaaGreatDoor
set_option maxRecDepth 100000
open Go.RowKit
theorem upI_le (L I : Nat) : upI L I ≤ I := by
  unfold upI
  split
  · omega
  · omega
theorem joinF_mem {P : Nat × Nat × List UInt8 → Prop} (hu : ∀ a b, P a → P b → P (upC1 a b)) : ∀ {l l' : List (Nat × Nat × List UInt8)}, joinF l = some l' → (∀ x ∈ l, P x) → ∀ x ∈ l', P x
  | [], _, h, _ => by cases h
  | [_], _, h, _ => by cases h
  | a :: b :: t, l', h, hp => by
    unfold joinF at h
    split at h
    · cases h
      intro x hx
      rcases List.mem_cons.1 hx with rfl | hx
      · exact hu a b (hp a (by simp)) (hp b (by simp))
      · exact hp x (by simp [hx])
    · obtain ⟨m, h1, rfl⟩ := Option.map_eq_some_iff.1 h
      intro x hx
      rcases List.mem_cons.1 hx with rfl | hx
      · exact hp x (by simp)
      · exact joinF_mem hu h1 (fun y hy => hp y (List.mem_cons_of_mem _ hy)) x hx
theorem two_setE {w : World} {n : Nat} {a b c : Value} {T : TypeId} {fr : Nat × Nat} (h : w.heap[n]? = some (.cells #[a, b, c] T fr)) (y : Value) :
    (w.setCell ⟨n, 1, none⟩ y).heap[n]? = some (.cells #[a, y, c] T fr) := by
  simp [World.setCell, Array.getElem?_modify, h]
theorem ncells_snoc (l : List (Nat × Nat × List UInt8)) (x : Nat × Nat × List UInt8) : ncells (l ++ [x]) = ncells l ++ (ncell x).toList := by simp [ncells]
def rowLenD (d : Nat) (w : World) : Nat := match w.heap[d]? with | some (.cells cs _ _) => lenOf (cs.getD 2 undef) | _ => 0
theorem RmP.rowLen {base : Nat} {w : World} {d B E : Nat} {l : List (Nat × Nat × List UInt8)} {s : Value} (h : RmP base w d B E l s) : rowLenD d w = l.length := by
  obtain ⟨a, c, hs, -, -, -⟩ := own_shape h.row
  have h1 := h.hb
  subst hs
  unfold rowLenD
  simp [h1, lenOf]
/-- another list in the document's range -/
def SetR (base : Nat) (w : World) (d B E : Nat) (l : List (Nat × Nat × List UInt8)) (s : Value) (w' : World) : Prop := ∃ s', RmP base w' d B E l s' ∧ Keep (RmS d s) w w' ∧ ∀ k, s'.ownBlock = some k → s.ownBlock = some k ∨ w.heap.size ≤ k
set_option maxHeartbeats 1600000 in
theorem rmsettle_any (base : Nat) (w : World) (d B E : Nat) (l : List (Nat × Nat × List UInt8)) (s : Value) (h : RmP base w d B E l s) (hm : l.length ≤ 2000) (hI : ∀ x ∈ l, x.2.1 < 2 ^ 64) (hbase : base ≤ w.heap.size) :
    Calls Tryz.prog 90 #[.pointer (some ⟨d, 0, none⟩)] w fun e w' => e = .returned (.tuple #[]) ∧ SetR base w d B E (setlF l.length l) s w' := by
  have H0 := Bx.mk h; have LM := Bx.mk hm; have HI := Bx.mk hI; have HB := Bx.mk hbase
  obtain ⟨fin, hfin⟩ : ∃ q, q = setlF l.length l := ⟨_, rfl⟩
  have HF := Bx.mk hfin
  clear h hm hI hbase
  rw [← hfin]
  clear hfin
  go_enter Tryz.func90, Tryz.ntmps90
  go_wp2_with fail
  go_loopw [] (fun wr => ∃ (cur : List (Nat × Nat × List UInt8)) (s1 : Value) (kf : Nat), cur.length ≤ kf ∧ setlF kf cur = fin ∧ RmP base wr d B E cur s1 ∧ (∀ x ∈ cur, x.2.1 < 2 ^ 64) ∧ cur.length ≤ 2000 ∧ Keep (RmS d s) w wr ∧ ∀ k, s1.ownBlock = some k → s.ownBlock = some k ∨ w.heap.size ≤ k) (fun wr => rowLenD d wr)
  case atStart => exact ⟨l, s, l.length, Nat.le_refl _, HF.out.symm, H0.out, HI.out, LM.out, Keep.refl _ _, fun k hk => .inl hk⟩
  case round =>
    obtain ⟨cur, s1, kf, hkf, hse, hr, hi, hm, hk, hf⟩ := hrel
    have HKF := Bx.mk hkf; have HSE := Bx.mk hse; have HR := Bx.mk hr; have HIC := Bx.mk hi; have HMC := Bx.mk hm; have HK := Bx.mk hk; have HFR := Bx.mk hf
    have CJ := Bx.mk (rmjoin1_any base wr d B E cur s1 hr hm hi (Nat.le_trans HB.out hk.size))
    clear hkf hse hr hi hm hk hf
    go_wp2_with fail
    refine CJ.out.mono ?_
    rintro e w1 hJ
    rcases hJ with ⟨hn, rfl, hb⟩ | ⟨l', hs, rfl, s', hM, hk, hf⟩
    · have FIN : Bx (SetR base w d B E fin s w1) := ⟨s1, by rw [← HSE.out, setlF_stop kf hn]; exact HR.out.below hb, HK.out.trans (Keep.of_below hb (RmS d s)) (fun _ _ h => h), HFR.out⟩
      clear hn hb CJ
      go_wp2_with fail
      go_end0
      exact ⟨rfl, FIN.out⟩
    · have hl := joinF_len hs
      have NX : Bx (∃ (cur : List (Nat × Nat × List UInt8)) (s1 : Value) (kf : Nat), cur.length ≤ kf ∧ setlF kf cur = fin ∧ RmP base w1 d B E cur s1 ∧ (∀ x ∈ cur, x.2.1 < 2 ^ 64) ∧ cur.length ≤ 2000 ∧ Keep (RmS d s) w w1 ∧ ∀ k, s1.ownBlock = some k → s.ownBlock = some k ∨ w.heap.size ≤ k) := ⟨by
        have h1 := HKF.out; have h2 := HMC.out
        obtain ⟨k', rfl⟩ : ∃ k', kf = k' + 1 := ⟨kf - 1, by omega⟩
        exact ⟨l', s', k', by omega, by rw [← setlF_step hs]; exact HSE.out, hM, joinF_mem (P := fun x => x.2.1 < 2 ^ 64) (fun a b ha _ => Nat.lt_of_le_of_lt (upI_le a.1 a.2.1) ha) hs HIC.out, by omega, HK.out.trans (hk.mono (S' := RmS d s) (fun j _ e => .inl e)) (fun _ _ h => h), fun k hk' => .inr (Nat.le_trans HK.out.size (hf k hk'))⟩⟩
      have ME := Bx.mk (show rowLenD d w1 < rowLenD d wr by rw [hM.rowLen, HR.out.rowLen]; omega)
      clear hs hM hk hf hl CJ
      go_wp2_with fail
      go_roundw
      case rel => exact NX.out
      case measure => exact ME.out
def StD (own : Nat → Option Nat) (w : World) (d B E base m : Nat) (xs : List Value) (v0 : Value) (B2 : Nat) : Prop :=
  ∃ s', OutV own w d 17 67 #[.int .u64 (B : Int), .int .u64 (E : Int), s'] ∧ GrownW own w 14 base 105 34 s' m xs v0 B2
def VQa (a : Option Addr) (d N m c B E base B2 : Nat) (l : List (Nat × Nat × List UInt8)) (p : List UInt8) (oi : Nat) (v : Value) (own : Nat → Option Nat) (w : World) : Prop :=
  match oi with
  | 0 => v = .pointer (some ⟨d, 0, none⟩)
  | 1 => v = .pointer (some ⟨d, 0, none⟩)
  | 2 => v = .pointer (some ⟨d, 0, none⟩)
  | 3 => v = .pointer (some ⟨d, 2, none⟩)
  | 4 => v = .slice a m c
  | 5 => v = .pointer (some ⟨d, 0, none⟩)
  | 6 => v = .pointer (some ⟨d, 0, none⟩)
  | 7 => v = .pointer (some ⟨d, 0, none⟩)
  | 8 => v = .pointer (some ⟨d, 1, none⟩)
  | 9 => v = .int .u64 (E : Int)
  | 10 => v = .agg #[.int .u8 0, .int .u64 (E : Int)]
  | 11 => v = .agg (ocells (p))
  | 12 => v = .agg (ncell (0, E, p))
  | 13 => BuiltV own w v 1 105 (ncell (0, E, p))
  | 14 => GrownW own w 14 base 105 34 v (m + 1) (ncells l ++ (ncell (0, E, p)).toList) (.slice a m c) B2
  | 15 => v = .pointer (some ⟨d, 0, none⟩)
  | 16 => v = .pointer (some ⟨d, 2, none⟩)
  | 17 => StD own w d B E base (m + 1) (ncells l ++ (ncell (0, E, p)).toList) (.slice a m c) B2
  | _ => True
def VQamk : Nat → Option Nat := fun _ => none
theorem VQa_mono (a : Option Addr) (d N m c B E base B2 : Nat) (l : List (Nat × Nat × List UInt8)) (p : List UInt8) (oi oj : Nat) (v : Value) (own : Nat → Option Nat) (w : World) (own' : Nat → Option Nat) (w' : World) (hij : oi ≠ oj)  (hx0 : oi = 14 → oj = 17 → False) (h : VQa a d N m c B E base B2 l p oj v own w) (r : Rel VQamk oi own w own' w') : VQa a d N m c B E base B2 l p oj v own' w' := by
  unfold VQa at h ⊢
  split at h
  · exact h
  · exact h
  · exact h
  · exact h
  · exact h
  · exact h
  · exact h
  · exact h
  · exact h
  · exact h
  · exact h
  · exact h
  · exact h
  · exact h.stable r
  · exact h.stable r hij
  · exact h
  · exact h
  · obtain ⟨s1, h1, h2⟩ := h; exact ⟨s1, h1.stable r hij, h2.stable r (fun e => hx0 e rfl)⟩
  · trivial

set_option maxHeartbeats 3200000 in
theorem rmapp_any (base : Nat) (w : World) (d B E : Nat) (l : List (Nat × Nat × List UInt8)) (s : Value) (h : RmP base w d B E l s) (hE : E < 2 ^ 63) (hm : l.length ≤ 1000) (hI : ∀ x ∈ l, x.2.1 < 2 ^ 64) (hbase : base ≤ w.heap.size) (p : List UInt8) (hp : p.length = 32) :
    Calls Tryz.prog 19 #[.pointer (some ⟨d, 0, none⟩), .agg (ocells p)] w fun e w' => e = .returned (.agg #[.int .i64 0, .int .i64 0]) ∧ SetR base w d B (E + 1) (setlF (l.length + 1) (l ++ [(0, E, p)])) s w' := by
  have kb1 := er_al (Below.refl w.heap.size w) (.cells (ocells p) 81)
  have kb := er_al kb1 (.cells #[.int .i64 0, .int .i64 0] 75)
  have xN1 := heap_alloc_new w (.cells (ocells p) 81)
  have xN := ((er_al (Below.refl (w.alloc (.cells (ocells p) 81)).heap.size _) (.cells #[.int .i64 0, .int .i64 0] 75)).block _ (Array.getElem?_eq_some_iff.1 xN1).1).trans xN1
  have xG := heap_alloc_new (w.alloc (.cells (ocells p) 81)) (.cells #[.int .i64 0, .int .i64 0] 75)
  rw [show (w.alloc (.cells (ocells p) 81)).heap.size = w.heap.size + 1 by simp] at xG
  have h2 := h.below kb
  have hlt0 := h.lt
  obtain ⟨a, c, hs, -, -, -⟩ := own_shape h.row
  obtain ⟨m, hm2⟩ : ∃ m, m = l.length := ⟨_, rfl⟩
  rw [← hm2] at hs
  subst hs
  have HM := Bx.mk hm2; have LM := Bx.mk hm; have HI := Bx.mk hI; have PL := Bx.mk hp; have HE := Bx.mk hE; have H32 := Bx.mk h.h32; have HBD := Bx.mk h.bd; have HBS := Bx.mk hbase; have HLT := Bx.mk hlt0
  clear h hm hI hp hbase kb1 xN1 hlt0
  go_enter Tryz.func19, Tryz.ntmps19
  go_upto_region 1 with (fail)
  change Code.wp _ _ _ _ ((w.alloc (.cells (ocells p) 81)).alloc (.cells #[.int .i64 0, .int .i64 0] 75))
  generalize (w.alloc (.cells (ocells p) 81)).alloc (.cells #[.int .i64 0, .int .i64 0] 75) = W at kb xN xG h2 ⊢
  obtain ⟨N, hN⟩ : ∃ N, N = w.heap.size := ⟨_, rfl⟩
  obtain ⟨G, hG⟩ : ∃ G, G = w.heap.size + 1 := ⟨_, rfl⟩
  rw [← hG] at xG ⊢
  rw [← hN] at xN kb ⊢
  have HN := Bx.mk hN; have NG := Bx.mk (show N < G by omega)
  have YN := Bx.mk xN; have XG := Bx.mk xG; have KB := Bx.mk kb; have H2 := Bx.mk h2
  have or0 := h2.row
  rw [← hm2] at or0
  have XR := Bx.mk h2.hb; have OR := Bx.mk or0
  have RLT := Bx.mk (Array.getElem?_eq_some_iff.1 XR.out).1; have NLT := Bx.mk (Array.getElem?_eq_some_iff.1 YN.out).1
  have DN := Bx.mk (show d < N by rw [hN]; exact HLT.out d (.inl rfl))
  have RNB := Bx.mk (fun j (hj : (Value.slice a m c).ownBlock = some j) => own_ne_blk OR.out XR.out (by decide) j hj)
  have ONB := Bx.mk (show ∀ j, (Value.slice a m c).ownBlock = some j → j < N from fun j hj => by rw [hN]; exact HLT.out j (.inr hj))
  have NON := Bx.mk (ownBG_none (b := d) (v := .slice a m c) (i := 17) (j := 14) (k := N) (fun e => by have := ONB.out N e; omega) (fun e => by have := DN.out; omega))
  have HTP := Bx.mk (fun k' (hk' : W.heap.size ≤ k') => ownBG_none (b := d) (v := .slice a m c) (i := 17) (j := 14) (k := k') (fun e => by have := ownsRow_lt OR.out _ e; omega) (by have := RLT.out; omega))
  obtain ⟨i0, hi0, hz0, hz1, hz2⟩ := info_parts infoNz
  have RI := Bx.mk (And.intro hi0 (And.intro hz0 (And.intro hz1 hz2)))
  have Q1 := Bx.mk (show m + 1 ≤ maxLen by have := LM.out; have := HM.out; unfold maxLen; omega); have Q2 := Bx.mk (show (m + 1) * 48 ≤ 140737488355328 by have := LM.out; have := HM.out; omega)
  have QB := Bx.mk (show base ≤ W.heap.size by have := HBS.out; have := NLT.out; omega)
  have c1 := er_cellAt XR.out 1 _ rfl
  have n1 : ¬ (9223372036854775808 : Int) ≤ (E : Int) := by omega
  clear kb xN xG h2 hN hG hm2 hi0 hz0 hz1 hz2 or0
  go_upto_region 3 with (fail)
  clear c1 n1 hE
  refine wp_region_own8 (n := 41) VQamk (ownBG d (.slice a m c) 17 14) (VQa a d N m c B E base (W.heap.size) l p) (by kernel_rfl) (by kernel_rfl) rfl (fun k hk => HTP.out k hk) (fun j i hj _ => by cases hj) ?_ ?_ ?_
  · exact fun oi oj v own w own' w' hij hnd h r => VQa_mono a d N m c B E base (W.heap.size) l p oi oj v own w own' w' hij (by rintro rfl rfl; exact Bool.noConfusion (hnd.symm.trans (show depB _ 17 14 = true by kernel_rfl))) h r
  · intro oi o hi f u own hsame hsn hfr hlate hkeep8 hdep
    have hkeep := hkeep8 _ (.inl rfl)
    match oi, hi with
    | 0, hi =>
      cases (show some _ = some o from hi)
      have e0 : f.tmps.getD 0 undef = .pointer (some ⟨d, 0, none⟩) := hsame.slot 0 (fun i o h => invB2_not 0 (by kernel_rfl) h)
      clear hdep hsame hi hlate hfr hkeep
      exact .inl ⟨wanted_none rfl, showsO_move hsn rfl _ rfl e0⟩
    | 1, hi =>
      cases (show some _ = some o from hi)
      have e0 : f.tmps.getD 0 undef = .pointer (some ⟨d, 0, none⟩) := hsame.slot 0 (fun i o h => invB2_not 0 (by kernel_rfl) h)
      clear hdep hsame hi hlate hfr hkeep
      exact .inl ⟨wanted_none rfl, showsO_move hsn rfl _ rfl e0⟩
    | 2, hi =>
      cases (show some _ = some o from hi)
      have e13 : (f.tmps.getD 13 undef) = .pointer (some ⟨d, 0, none⟩) := depO (V := (VQa a d N m c B E base (W.heap.size) l p)) hdep 1 13 (by kernel_rfl) (by kernel_rfl)
      clear hdep hsame hi hlate hfr hkeep
      exact .inl ⟨wanted_none rfl, showsO_pure hsn rfl (.pointer (some ⟨d, 0, none⟩)) (by simp only [execOp, Act.eval]; go_simp) rfl⟩
    | 3, hi =>
      cases (show some _ = some o from hi)
      have e14 : (f.tmps.getD 14 undef) = .pointer (some ⟨d, 0, none⟩) := depO (V := (VQa a d N m c B E base (W.heap.size) l p)) hdep 2 14 (by kernel_rfl) (by kernel_rfl)
      clear hdep hsame hi hlate hfr hkeep
      exact .inl ⟨wanted_none rfl, showsO_pure hsn rfl (.pointer (some ⟨d, 2, none⟩)) (by simp only [execOp, Act.eval]; go_simp) rfl⟩
    | 4, hi =>
      cases (show some _ = some o from hi)
      have e15 : (f.tmps.getD 15 undef) = .pointer (some ⟨d, 2, none⟩) := depO (V := (VQa a d N m c B E base (W.heap.size) l p)) hdep 3 15 (by kernel_rfl) (by kernel_rfl)
      clear hdep hsame hi hlate hfr hkeep
      have c16 := er_cellAt ((hkeep8 17 (.inr (by kernel_rfl)) d RLT.out (ownBG_one _ _ _ _)).trans XR.out) 2 _ rfl
      exact .inl ⟨wanted_none rfl, showsO_pure hsn rfl (.slice a m c) (by simp only [execOp, Act.eval]; go_simp) rfl⟩
    | 5, hi =>
      cases (show some _ = some o from hi)
      have e0 : f.tmps.getD 0 undef = .pointer (some ⟨d, 0, none⟩) := hsame.slot 0 (fun i o h => invB2_not 0 (by kernel_rfl) h)
      clear hdep hsame hi hlate hfr hkeep
      exact .inl ⟨wanted_none rfl, showsO_move hsn rfl _ rfl e0⟩
    | 6, hi =>
      cases (show some _ = some o from hi)
      have e17 : (f.tmps.getD 17 undef) = .pointer (some ⟨d, 0, none⟩) := depO (V := (VQa a d N m c B E base (W.heap.size) l p)) hdep 5 17 (by kernel_rfl) (by kernel_rfl)
      clear hdep hsame hi hlate hfr hkeep
      exact .inl ⟨wanted_none rfl, showsO_pure hsn rfl (.pointer (some ⟨d, 0, none⟩)) (by simp only [execOp, Act.eval]; go_simp) rfl⟩
    | 7, hi =>
      cases (show some _ = some o from hi)
      have e18 : (f.tmps.getD 18 undef) = .pointer (some ⟨d, 0, none⟩) := depO (V := (VQa a d N m c B E base (W.heap.size) l p)) hdep 6 18 (by kernel_rfl) (by kernel_rfl)
      clear hdep hsame hi hlate hfr hkeep
      exact .inl ⟨wanted_none rfl, showsO_pure hsn rfl (.pointer (some ⟨d, 0, none⟩)) (by simp only [execOp, Act.eval]; go_simp) rfl⟩
    | 8, hi =>
      cases (show some _ = some o from hi)
      have e19 : (f.tmps.getD 19 undef) = .pointer (some ⟨d, 0, none⟩) := depO (V := (VQa a d N m c B E base (W.heap.size) l p)) hdep 7 19 (by kernel_rfl) (by kernel_rfl)
      clear hdep hsame hi hlate hfr hkeep
      exact .inl ⟨wanted_none rfl, showsO_pure hsn rfl (.pointer (some ⟨d, 1, none⟩)) (by simp only [execOp, Act.eval]; go_simp) rfl⟩
    | 9, hi =>
      cases (show some _ = some o from hi)
      have e20 : (f.tmps.getD 20 undef) = .pointer (some ⟨d, 1, none⟩) := depO (V := (VQa a d N m c B E base (W.heap.size) l p)) hdep 8 20 (by kernel_rfl) (by kernel_rfl)
      clear hdep hsame hi hlate hfr hkeep
      have c21 := er_cellAt ((hkeep8 17 (.inr (by kernel_rfl)) d RLT.out (ownBG_one _ _ _ _)).trans XR.out) 1 _ rfl
      exact .inl ⟨wanted_none rfl, showsO_pure hsn rfl (.int .u64 (E : Int)) (by simp only [execOp, Act.eval]; go_simp) rfl⟩
    | 10, hi =>
      cases (show some _ = some o from hi)
      have e21 : (f.tmps.getD 21 undef) = .int .u64 (E : Int) := depO (V := (VQa a d N m c B E base (W.heap.size) l p)) hdep 9 21 (by kernel_rfl) (by kernel_rfl)
      clear hdep hsame hi hlate hfr hkeep
      exact .inl ⟨wanted_none rfl, showsO_build hsn rfl 103 #[(1, .tmp 21)] rfl #[.int .u8 0, .int .u64 (E : Int)] (by simp only [List.map_toArray, List.map_cons, List.map_nil, Act.eval]; rw [e21]; exact built_coord1 _) rfl⟩
    | 11, hi =>
      cases (show some _ = some o from hi)
      have e3 : f.tmps.getD 3 undef = .pointer (some ⟨N, 0, none⟩) := hsame.slot 3 (fun i o h => invB2_not 3 (by kernel_rfl) h)
      clear hdep hsame hi hlate hfr hkeep
      exact .inl ⟨wanted_none rfl, showsO_row hsn rfl 81 (.tmp 3) rfl N e3 (ocells p) ((hsn.keep N NLT.out NON.out).trans YN.out) underH rfl (hszL PL.out) rfl⟩
    | 12, hi =>
      cases (show some _ = some o from hi)
      have e22 : (f.tmps.getD 22 undef) = .agg #[.int .u8 0, .int .u64 (E : Int)] := depO (V := (VQa a d N m c B E base (W.heap.size) l p)) hdep 10 22 (by kernel_rfl) (by kernel_rfl)
      have e23 : (f.tmps.getD 23 undef) = .agg (ocells (p)) := depO (V := (VQa a d N m c B E base (W.heap.size) l p)) hdep 11 23 (by kernel_rfl) (by kernel_rfl)
      clear hdep hsame hi hlate hfr hkeep
      exact .inl ⟨wanted_none rfl, showsO_build hsn rfl 105 #[(0, .tmp 22), (1, .tmp 23)] rfl (ncell (0, E, p)) (by simp only [List.map_toArray, List.map_cons, List.map_nil, Act.eval]; rw [e22, e23]; exact built_node _ _ p PL.out) rfl⟩
    | 13, hi =>
      cases (show some _ = some o from hi)
      have e24 : (f.tmps.getD 24 undef) = .agg (ncell (0, E, p)) := depO (V := (VQa a d N m c B E base (W.heap.size) l p)) hdep 12 24 (by kernel_rfl) (by kernel_rfl)
      clear hdep hsame hi hlate hfr hkeep
      exact .inl ⟨wanted_none rfl, showsO_built hsn rfl 1 105 (ncell (0, E, p)) (run_bs_node u (.tmp 24) rfl (ncell (0, E, p)) (ncell_size PL.out) e24) (fun h => h)⟩
    | 14, hi =>
      cases (show some _ = some o from hi)
      have e16 : (f.tmps.getD 16 undef) = .slice a m c := depO (V := (VQa a d N m c B E base (W.heap.size) l p)) hdep 4 16 (by kernel_rfl) (by kernel_rfl)
      have e25 : BuiltV own u (f.tmps.getD 25 undef) 1 105 (ncell (0, E, p)) := depO (V := (VQa a d N m c B E base (W.heap.size) l p)) hdep 13 25 (by kernel_rfl) (by kernel_rfl)
      clear hdep hsame hi hlate hfr
      exact .inl ⟨wanted_none rfl, showsO_appendW hsn hkeep rfl (.tmp 16) (.tmp 25) 63 rfl base 105 i0 (.agg zerosN) 34 48 underNs RI.out.1 RI.out.2.1 RI.out.2.2.1 RI.out.2.2.2 rfl (by decide) (.slice a m c) m (ncells l) e16 OR.out (fun j hj => ownBG_two hj (RNB.out j hj)) e25 (by rw [ncell_size PL.out]) (ncell_one _) Q1.out Q2.out QB.out (fun _ _ _ h => h)⟩
    | 15, hi =>
      cases (show some _ = some o from hi)
      have e12 : (f.tmps.getD 12 undef) = .pointer (some ⟨d, 0, none⟩) := depO (V := (VQa a d N m c B E base (W.heap.size) l p)) hdep 0 12 (by kernel_rfl) (by kernel_rfl)
      clear hdep hsame hi hlate hfr hkeep
      exact .inl ⟨wanted_none rfl, showsO_pure hsn rfl (.pointer (some ⟨d, 0, none⟩)) (by simp only [execOp, Act.eval]; go_simp) rfl⟩
    | 16, hi =>
      cases (show some _ = some o from hi)
      have e27 : (f.tmps.getD 27 undef) = .pointer (some ⟨d, 0, none⟩) := depO (V := (VQa a d N m c B E base (W.heap.size) l p)) hdep 15 27 (by kernel_rfl) (by kernel_rfl)
      clear hdep hsame hi hlate hfr hkeep
      exact .inl ⟨wanted_none rfl, showsO_pure hsn rfl (.pointer (some ⟨d, 2, none⟩)) (by simp only [execOp, Act.eval]; go_simp) rfl⟩
    | 17, hi =>
      cases (show some _ = some o from hi)
      have e26 : GrownW own u 14 base 105 34 (f.tmps.getD 26 undef) (m + 1) (ncells l ++ (ncell (0, E, p)).toList) (.slice a m c) (W.heap.size) := depO (V := (VQa a d N m c B E base (W.heap.size) l p)) hdep 14 26 (by kernel_rfl) (by kernel_rfl)
      have e28 : (f.tmps.getD 28 undef) = .pointer (some ⟨d, 2, none⟩) := depO (V := (VQa a d N m c B E base (W.heap.size) l p)) hdep 16 28 (by kernel_rfl) (by kernel_rfl)
      clear hdep hsame hi hlate hfr hkeep
      have hst := er_cellAt ((hkeep8 17 (.inl rfl) d RLT.out (ownBG_one _ _ _ _)).trans XR.out) 2 _ rfl
      have hfr2 := frozenC ((hkeep8 17 (.inl rfl) d RLT.out (ownBG_one _ _ _ _)).trans XR.out) 2
      obtain ⟨a1, c1, ev, _, _, _⟩ := own_shape e26.1.1
      rw [ev] at e26
      have hob : own d = some 17 := (hsn.owns d RLT.out).trans (ownBG_one _ _ _ _)
      have HQ : ∀ {v}, GrownW own u 14 base 105 34 v (m + 1) (ncells l ++ (ncell (0, E, p)).toList) (.slice a m c) (W.heap.size) → GrownW own u 14 base 105 34 v (m + 1) (ncells l ++ (ncell (0, E, p)).toList) (.slice a m c) (W.heap.size) := fun h => h
      exact .inl ⟨wanted_none rfl, showsO_store_cell hsn hkeep8 rfl d 2 #[.int .u64 (B : Int), .int .u64 (E : Int), .slice a m c] 67 XR.out (ownBG_one _ _ _ _) (.slice a1 (m + 1) c1) (by simp only [execOp, Act.eval]; go_simp) (fun h => ⟨_, h, grownW_setCellG (HQ e26) d 2 _ hob (by decide)⟩)⟩
    | n + 18, hi => exact absurd hi (by simp)
  · intro f W2 own hsame hsn hall
    have q12 : f.tmps.getD 12 undef = .pointer (some ⟨d, 0, none⟩) := finO (V := (VQa a d N m c B E base (W.heap.size) l p)) hall 0 12 rfl
    have q13 : f.tmps.getD 13 undef = .pointer (some ⟨d, 0, none⟩) := finO (V := (VQa a d N m c B E base (W.heap.size) l p)) hall 1 13 rfl
    have q14 : f.tmps.getD 14 undef = .pointer (some ⟨d, 0, none⟩) := finO (V := (VQa a d N m c B E base (W.heap.size) l p)) hall 2 14 rfl
    have q15 : f.tmps.getD 15 undef = .pointer (some ⟨d, 2, none⟩) := finO (V := (VQa a d N m c B E base (W.heap.size) l p)) hall 3 15 rfl
    have q16 : f.tmps.getD 16 undef = .slice a m c := finO (V := (VQa a d N m c B E base (W.heap.size) l p)) hall 4 16 rfl
    have q17 : f.tmps.getD 17 undef = .pointer (some ⟨d, 0, none⟩) := finO (V := (VQa a d N m c B E base (W.heap.size) l p)) hall 5 17 rfl
    have q18 : f.tmps.getD 18 undef = .pointer (some ⟨d, 0, none⟩) := finO (V := (VQa a d N m c B E base (W.heap.size) l p)) hall 6 18 rfl
    have q19 : f.tmps.getD 19 undef = .pointer (some ⟨d, 0, none⟩) := finO (V := (VQa a d N m c B E base (W.heap.size) l p)) hall 7 19 rfl
    have q20 : f.tmps.getD 20 undef = .pointer (some ⟨d, 1, none⟩) := finO (V := (VQa a d N m c B E base (W.heap.size) l p)) hall 8 20 rfl
    have q21 : f.tmps.getD 21 undef = .int .u64 (E : Int) := finO (V := (VQa a d N m c B E base (W.heap.size) l p)) hall 9 21 rfl
    have q22 : f.tmps.getD 22 undef = .agg #[.int .u8 0, .int .u64 (E : Int)] := finO (V := (VQa a d N m c B E base (W.heap.size) l p)) hall 10 22 rfl
    have q23 : f.tmps.getD 23 undef = .agg (ocells (p)) := finO (V := (VQa a d N m c B E base (W.heap.size) l p)) hall 11 23 rfl
    have q24 : f.tmps.getD 24 undef = .agg (ncell (0, E, p)) := finO (V := (VQa a d N m c B E base (W.heap.size) l p)) hall 12 24 rfl
    obtain ⟨g25, q25, o25, m25⟩ : BuiltV own W2 (f.tmps.getD 25 undef) 1 105 (ncell (0, E, p)) := finO (V := (VQa a d N m c B E base (W.heap.size) l p)) hall 13 25 rfl
    have m26 := finO (V := (VQa a d N m c B E base (W.heap.size) l p)) hall 14 26 rfl
    obtain ⟨r26, q26⟩ : ∃ r, f.tmps.getD 26 undef = r := ⟨_, rfl⟩
    rw [q26] at m26
    have q27 : f.tmps.getD 27 undef = .pointer (some ⟨d, 0, none⟩) := finO (V := (VQa a d N m c B E base (W.heap.size) l p)) hall 15 27 rfl
    have q28 : f.tmps.getD 28 undef = .pointer (some ⟨d, 2, none⟩) := finO (V := (VQa a d N m c B E base (W.heap.size) l p)) hall 16 28 rfl
    obtain ⟨s1, ⟨ob, hbb⟩, ⟨gw, gf⟩, gz⟩ := finN (V := (VQa a d N m c B E base (W.heap.size) l p)) hall 17 rfl
    obtain rfl := frame_eq hsame [(12, .pointer (some ⟨d, 0, none⟩)), (13, .pointer (some ⟨d, 0, none⟩)), (14, .pointer (some ⟨d, 0, none⟩)), (15, .pointer (some ⟨d, 2, none⟩)), (16, .slice a m c), (17, .pointer (some ⟨d, 0, none⟩)), (18, .pointer (some ⟨d, 0, none⟩)), (19, .pointer (some ⟨d, 0, none⟩)), (20, .pointer (some ⟨d, 1, none⟩)), (21, .int .u64 (E : Int)), (22, .agg #[.int .u8 0, .int .u64 (E : Int)]), (23, .agg (ocells (p))), (24, .agg (ncell (0, E, p))), (25, .slice (some ⟨g25, 0, none⟩) 1 1), (26, r26), (27, .pointer (some ⟨d, 0, none⟩)), (28, .pointer (some ⟨d, 2, none⟩))] (by kernel_rfl) ⟨q12, q13, q14, q15, q16, q17, q18, q19, q20, q21, q22, q23, q24, q25, q26, q27, q28, trivial⟩
    clear hall hsame q12 q13 q14 q15 q16 q17 q18 q19 q20 q21 q22 q23 q24 q25 q26 q27 q28
    simp only [List.foldl, List.setIfInBounds_toArray, List.set_cons_succ, List.set_cons_zero]

    have kbr := hsn.keepBG
    clear hsn m26 ob o25 m25 gf
    have SZ := Bx.mk (Nat.le_trans KB.out.size kbr.size); have SB := Bx.mk KB.out.size; have S2 := Bx.mk kbr.size
    have GLT := Bx.mk (Array.getElem?_eq_some_iff.1 XG.out).1
    have GN := Bx.mk (show ∀ k, w.heap.size ≤ k ∨ k = k → k = G → w.heap.size ≤ k from fun k _ e => by have := HN.out; have := NG.out; omega)
    have GS1 := Bx.mk (show ∀ k, RmS d s1 k → k ≠ G from fun k hk e => by
      have h1 := NG.out; have h2 := DN.out; have h3 := GLT.out
      rcases hk with hk | hk
      · omega
      · rcases gz k hk with h4 | h4
        · have := ONB.out k h4; omega
        · omega)
    have GR := Bx.mk (show ∀ k, s1.ownBlock = some k → (Value.slice a m c).ownBlock = some k ∨ w.heap.size ≤ k from fun k hk => (gz k hk).imp id (fun h => Nat.le_trans SB.out h))
    have XG2 := Bx.mk ((kbr.block G GLT.out (fun hj => by
      have h1 := NG.out; have h2 := DN.out
      rcases hj with hj | hj
      · omega
      · have := ONB.out G hj; omega)).trans XG.out)
    have K2 := Bx.mk (((Keep.of_below (HN.out ▸ KB.out) (RmS d (.slice a m c))).trans kbr (fun _ _ h => h)).trans (Keep.setCell W2 ⟨d, 1, none⟩ (.int .u64 ((E + 1 : Nat) : Int))) (fun _ _ h => .inl h))
    have RM := Bx.mk (show RmP base (W2.setCell ⟨d, 1, none⟩ (.int .u64 ((E + 1 : Nat) : Int))) d B (E + 1) (l ++ [(0, E, p)]) s1 from by
      refine ⟨two_setE hbb _, HBD.out, ?_, fun q hq => ?_⟩
      · have h1 := ownsRow_setCell_ne gw ⟨d, 1, none⟩ (.int .u64 ((E + 1 : Nat) : Int)) (fun k hk e => own_ne_blk gw hbb (by decide) k hk e)
        have h2 := HM.out
        rw [List.length_append, ← h2, ncells_snoc]
        exact h1
      · rcases List.mem_append.1 hq with hq | hq
        · exact H32.out q hq
        · rw [List.mem_singleton.1 hq]; exact PL.out)
    have CS := Bx.mk (rmsettle_any base _ d B (E + 1) (l ++ [(0, E, p)]) s1 RM.out (by have := LM.out; rw [List.length_append]; simp; omega) (fun q hq => by
      rcases List.mem_append.1 hq with hq | hq
      · exact HI.out q hq
      · have := HE.out; rw [List.mem_singleton.1 hq]; show E < _; omega) (by have := HBS.out; have := SZ.out; have := HN.out; simp; omega))
    have c1 := er_cellAt hbb 1 _ rfl
    have f1 := er_frozen hbb 1
    have d1 : IntKind.u64.wrap ((E : Int) + 1) = ((E + 1 : Nat) : Int) := by have := HE.out; simp [IntKind.wrap, IntKind.bits, IntKind.signed]; omega
    have XG3 := Bx.mk (show (W2.setCell ⟨d, 1, none⟩ (.int .u64 ((E + 1 : Nat) : Int))).heap[G]? = some (.cells #[.int .i64 0, .int .i64 0] 75 (0, 0)) from ((Keep.setCell W2 ⟨d, 1, none⟩ _).block G (Array.getElem?_eq_some_iff.1 XG2.out).1 (fun e => by have e2 : G = d := e; have h1 := NG.out; have h2 := DN.out; omega)).trans XG2.out)
    have G2 := Bx.mk (Array.getElem?_eq_some_iff.1 XG2.out).1
    clear gw gz hbb kbr
    go_wp2_with fail
    refine CS.out.mono ?_
    rintro e w3 ⟨rfl, s2, hM, hK, hF⟩
    have X3 := Bx.mk ((hK.block G (by simpa using G2.out) (fun hj => GS1.out G hj rfl)).trans XG3.out)
    have FIN : Bx (SetR base w d B (E + 1) (setlF (l.length + 1) (l ++ [(0, E, p)])) (.slice a m c) (w3.setRow G #[.int .i64 0, .int .i64 0])) := ⟨by
      refine ⟨s2, ?_, ?_, ?_⟩
      · have h1 := hM.kept (Keep.setRow w3 G #[.int .i64 0, .int .i64 0]) (fun j hj e => by
          have e2 : j = G := e
          rcases hj with hj | hj
          · have h1 := NG.out; have h2 := DN.out; omega
          · rcases hF j hj with h4 | h4
            · exact GS1.out j (.inr h4) e2
            · have h5 := G2.out; have h6 : (W2.setCell ⟨d, 1, none⟩ (.int .u64 ((E + 1 : Nat) : Int))).heap.size = W2.heap.size := by simp
              omega)
        rw [List.length_append] at h1
        exact h1
      · refine (K2.out.trans hK (fun k hk hj => ?_)).trans (Keep.setRow w3 G _) (fun k hk e => ?_)
        · rcases hj with hj | hj
          · exact .inl hj
          · rcases GR.out k hj with h4 | h4
            · exact .inr h4
            · omega
        · have e2 : k = G := e
          have h1 := HN.out; have h2 := NG.out; omega
      · intro k hk
        rcases hF k hk with h4 | h4
        · exact GR.out k h4
        · right; have h6 : (W2.setCell ⟨d, 1, none⟩ (.int .u64 ((E + 1 : Nat) : Int))).heap.size = W2.heap.size := by simp
          have := SZ.out; have := HN.out; omega⟩
    clear hM hK hF CS
    go_wp2_with (guard_target =~ wpList _ _ _ (⟨none, _, _, _, _, _⟩ :: _) _ _; refine wpList_store_row rfl 75 (.tmp 4) (.tmp 40) rfl G #[.int .i64 0, .int .i64 0] rfl rfl _ _ X3.out (by kernel_rfl) rfl (by simp [Value.oneCell']) ?_)
    refine bodyPost_ret (results_cell_row rfl _ _ G _ #[.int .i64 0, .int .i64 0] _ _ rfl (setRow_heap _ G _ _ _ _ X3.out) Tryz.underlying75 rfl (by kernel_rfl)) rfl ⟨rfl, FIN.out⟩
end Go.Proofs.YtgbafjmklefoiaaGreatDoor
