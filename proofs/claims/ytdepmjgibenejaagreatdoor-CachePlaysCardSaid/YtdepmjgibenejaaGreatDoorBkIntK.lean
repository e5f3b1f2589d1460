/- cartularylaw01.Book: keep of one kind of list. -/
import Derived.Test.YtdepmjgibenejaaGreatDoorBkC
namespace Go.Proofs.YtdepmjgibenejaaGreatDoor
set_option maxRecDepth 100000
open Go.RowKit
/-- what is held of one list: itself, the longer one, its number -/
def hdcInt (x : Value × Value × Int) : List Value := [x.1, x.2.1, .int .i64 x.2.2]
theorem built_heldInt (va : Option Addr) (vn vc : Nat) (n : Int) : Tryz.prog.built 93 [(0, .slice va vn vc), (2, .int .i64 n)] = some #[.slice va vn vc, .slice none 0 0, .int .i64 n] := by kernel_rfl
theorem under_heldInt : Tryz.prog.underlying 60 = some (.slice 93) := by kernel_rfl
theorem info_heldInt : (Tryz.prog.info? 93).map (fun i => (i.zero, i.size, i.bytes)) = some (some (.agg #[.slice none 0 0, .slice none 0 0, .int .i64 0]), 3, 56) := by kernel_rfl
theorem run_bs_heldInt {o : Oper} {a : Act} (w : World) (x : Operand) (ho : o.op = .buildSlice 60 1 #[(0, x)]) (va : Option Addr) (vn vc : Nat) (n : Int) (hx : a.eval x = .agg #[.slice va vn vc, .slice none 0 0, .int .i64 n]) :
    (execOp a.eval o).run Tryz.prog w = .ok (.value (.slice (some ⟨w.heap.size, 0, none⟩) 1 1)) (w.alloc (.cells #[.slice va vn vc, .slice none 0 0, .int .i64 n] 93)) := by
  have hr : (Instr.buildSlice 60 1 #[(0, .agg #[.slice va vn vc, .slice none 0 0, .int .i64 n])]).run Tryz.prog w = .ok (.slice (some ⟨w.heap.size, 0, none⟩) 1 1) (w.alloc (.cells #[.slice va vn vc, .slice none 0 0, .int .i64 n] 93)) := by kernel_rfl
  unfold execOp
  simp only [ho, List.map_toArray, List.map_cons, List.map_nil, hx, Sem.run_bind, hr, Result.andThen_ok, Sem.run_pure]
def StKInt (own : Nat → Option Nat) (w : World) (b n base m : Nat) (l : Nat → Value) (la : Option Addr) (lc : Nat) (xs : List Value) (va : Option Addr) (vn vc B2 : Nat) : Prop :=
  ∃ s1, OutV own w b 15 77 #[.int .i64 ((n + 1 : Nat) : Int), s1, l 2, l 3, l 4, l 5, l 6, l 7, l 8, l 9, l 10, l 11, l 12, l 13, l 14, l 15, l 16] ∧ GrownW own w 12 base 93 3 s1 (m + 1) (xs ++ (#[.slice va vn vc, .slice none 0 0, .int .i64 ((n + 1 : Nat) : Int)] : Array Value).toList) (.slice la m lc) B2
def VKInt (b n base m : Nat) (l : Nat → Value) (la : Option Addr) (lc : Nat) (xs : List Value) (va : Option Addr) (vn vc B2 : Nat) (oi : Nat) (v : Value) (own : Nat → Option Nat) (w : World) : Prop :=
  match oi with
  | 0 => v = .pointer (some ⟨b, 0, none⟩)
  | 1 => v = .pointer (some ⟨b, 0, none⟩)
  | 2 => v = .pointer (some ⟨b, 0, none⟩)
  | 3 => v = .pointer (some ⟨b, 1, none⟩)
  | 4 => v = .slice la m lc
  | 5 => v = .slice va vn vc
  | 6 => v = .pointer (some ⟨b, 0, none⟩)
  | 7 => v = .pointer (some ⟨b, 0, none⟩)
  | 8 => v = .pointer (some ⟨b, 0, none⟩)
  | 9 => v = .int .i64 ((n + 1 : Nat) : Int)
  | 10 => v = .agg #[.slice va vn vc, .slice none 0 0, .int .i64 ((n + 1 : Nat) : Int)]
  | 11 => BuiltV own w v 1 93 #[.slice va vn vc, .slice none 0 0, .int .i64 ((n + 1 : Nat) : Int)]
  | 12 => GrownW own w 12 base 93 3 v (m + 1) (xs ++ (#[.slice va vn vc, .slice none 0 0, .int .i64 ((n + 1 : Nat) : Int)] : Array Value).toList) (.slice la m lc) B2
  | 13 => v = .pointer (some ⟨b, 0, none⟩)
  | 14 => v = .pointer (some ⟨b, 1, none⟩)
  | 15 => StKInt own w b n base m l la lc xs va vn vc B2
  | _ => True
def VKIntmk : Nat → Option Nat := fun _ => none
theorem VKInt_mono (b n base m : Nat) (l : Nat → Value) (la : Option Addr) (lc : Nat) (xs : List Value) (va : Option Addr) (vn vc B2 : Nat) (oi oj : Nat) (v : Value) (own : Nat → Option Nat) (w : World) (own' : Nat → Option Nat) (w' : World) (hij : oi ≠ oj)  (hx0 : oi = 12 → oj = 15 → False) (h : VKInt b n base m l la lc xs va vn vc B2 oj v own w) (r : Rel VKIntmk oi own w own' w') : VKInt b n base m l la lc xs va vn vc B2 oj v own' w' := by
  unfold VKInt at h ⊢
  split at h
  · exact h
  · exact h
  · exact h
  · exact h
  · exact h
  · exact h
  · exact h
  · exact h
  · exact h
  · exact h
  · exact h
  · exact h.stable r
  · exact h.stable r hij
  · exact h
  · exact h
  · obtain ⟨s1, h1, h2⟩ := h; exact ⟨s1, h1.stable r hij, h2.stable r (fun e => hx0 e rfl)⟩
  · trivial

set_option maxHeartbeats 1600000 in
theorem keepInt_any (base : Nat) (w : World) (b n : Nat) (l : Nat → Value) (m : Nat) (xs : List Value) (hB : BkP w b (n : Int) l) (hO : w.ownsRow base 93 3 (l 1) m xs) (hm : m ≤ 100000000) (hn : n ≤ 100000000) (hne : ∀ j, (l 1).ownBlock = some j → j ≠ b) (hbase : base ≤ w.heap.size) (va : Option Addr) (vn vc : Nat) :
    Calls Tryz.prog 29 #[.pointer (some ⟨b, 0, none⟩), .slice va vn vc] w fun e w' => e = .returned (.tuple #[]) ∧ ∃ x, BkP w' b ((n + 1 : Nat) : Int) (updK l 1 x) ∧ w'.ownsRow base 93 3 x (m + 1) (xs ++ hdcInt (.slice va vn vc, .slice none 0 0, ((n + 1 : Nat) : Int))) ∧ Keep (fun k => k = b ∨ (l 1).ownBlock = some k) w w' ∧ ∀ k, x.ownBlock = some k → k ≠ b ∧ ((l 1).ownBlock = some k ∨ w.heap.size ≤ k) := by
  obtain ⟨la, lc, hs, -, -, -⟩ := own_shapeK hO
  have c0 := er_cellAt hB.hb 0 _ rfl
  have f0 : w.frozen? ⟨b, 0, none⟩ = false := by simp [World.frozen?, hB.hb]
  have hlt := (Array.getElem?_eq_some_iff.1 hB.hb).1
  rw [hs] at hO hne
  have hx : (w.setCell ⟨b, 0, none⟩ (.int .i64 ((n + 1 : Nat) : Int))).heap[b]? = some (.cells #[.int .i64 ((n + 1 : Nat) : Int), (.slice la m lc), l 2, l 3, l 4, l 5, l 6, l 7, l 8, l 9, l 10, l 11, l 12, l 13, l 14, l 15, l 16] 77 (0, 0)) := by
    have h := hB.hb
    rw [hs] at h
    simp [World.setCell, Array.getElem?_modify, h]
  have ho := ownsRow_setCell_ne hO ⟨b, 0, none⟩ (.int .i64 ((n + 1 : Nat) : Int)) (fun j hj e => hne j hj e)
  have hk := Keep.setCell w ⟨b, 0, none⟩ (.int .i64 ((n + 1 : Nat) : Int))
  have fw : wrap64 ((n : Int) + 1) = ((n + 1 : Nat) : Int) := by unfold wrap64; omega
  have HS := Bx.mk hs; have HN := Bx.mk hn; have HM := Bx.mk hm; have RNB := Bx.mk hne; have OX0 := Bx.mk ho; have XB0 := Bx.mk hx; have KX0 := Bx.mk hk; have FW := Bx.mk fw; have BS := Bx.mk hbase; have WL := Bx.mk hlt; have OL := Bx.mk (fun j (hj : (Value.slice la m lc).ownBlock = some j) => ownsRow_lt hO j hj)
  clear hB hO hm hn hne hs hx ho hk hbase hlt
  go_enter Tryz.func29, Tryz.ntmps29
  go_upto_region 1 with (fail)
  change Code.wp _ _ _ _ (w.setCell ⟨b, 0, none⟩ (.int .i64 ((n + 1 : Nat) : Int)))
  clear c0 f0 fw
  generalize w.setCell ⟨b, 0, none⟩ (.int .i64 ((n + 1 : Nat) : Int)) = X at OX0 XB0 KX0 ⊢
  have XBX := XB0; have OX := OX0
  have XBL := Bx.mk (Array.getElem?_eq_some_iff.1 XBX.out).1
  have HTP := Bx.mk (fun k' (hk' : X.heap.size ≤ k') => ownBK_none (b := b) (v := .slice la m lc) (i := 15) (j := 12) (k := k') (fun e => by have := OL.out _ e; have := KX0.out.size; omega) (by have := XBL.out; omega))
  obtain ⟨j0, hj0, hy0, hy1, hy2⟩ := info_partsB info_heldInt
  have RJ := Bx.mk (And.intro hj0 (And.intro hy0 (And.intro hy1 hy2)))
  have Q1 := Bx.mk (show m + 1 ≤ maxLen by have := HM.out; unfold maxLen; omega); have Q2 := Bx.mk (show (m + 1) * 56 ≤ 140737488355328 by have := HM.out; omega)
  have QB := Bx.mk (show base ≤ X.heap.size from Nat.le_trans BS.out KX0.out.size)
  clear hj0 hy0 hy1 hy2
  refine wp_region_own8 (n := 26) VKIntmk (ownBK b (.slice la m lc) 15 12) (VKInt b n base m l la lc xs va vn vc (X.heap.size)) (by kernel_rfl) (by kernel_rfl) rfl (fun k hk => HTP.out k hk) (fun j i hj _ => by cases hj) ?_ ?_ ?_
  · exact fun oi oj v own w own' w' hij hnd h r => VKInt_mono b n base m l la lc xs va vn vc (X.heap.size) oi oj v own w own' w' hij (by rintro rfl rfl; exact Bool.noConfusion (hnd.symm.trans (show depB _ 15 12 = true by kernel_rfl))) h r
  · intro oi o hi f u own hsame hsn hfr hlate hkeep8 hdep
    have hkeep := hkeep8 _ (.inl rfl)
    match oi, hi with
    | 0, hi =>
      cases (show some _ = some o from hi)
      have e0 : f.tmps.getD 0 undef = .pointer (some ⟨b, 0, none⟩) := hsame.slot 0 (fun i o h => invB2_not 0 (by kernel_rfl) h)
      clear hdep hsame hi hlate hfr hkeep
      exact .inl ⟨wanted_none rfl, showsO_move hsn rfl _ rfl e0⟩
    | 1, hi =>
      cases (show some _ = some o from hi)
      have e0 : f.tmps.getD 0 undef = .pointer (some ⟨b, 0, none⟩) := hsame.slot 0 (fun i o h => invB2_not 0 (by kernel_rfl) h)
      clear hdep hsame hi hlate hfr hkeep
      exact .inl ⟨wanted_none rfl, showsO_move hsn rfl _ rfl e0⟩
    | 2, hi =>
      cases (show some _ = some o from hi)
      have e12 : (f.tmps.getD 12 undef) = .pointer (some ⟨b, 0, none⟩) := depO (V := (VKInt b n base m l la lc xs va vn vc (X.heap.size))) hdep 1 12 (by kernel_rfl) (by kernel_rfl)
      clear hdep hsame hi hlate hfr hkeep
      exact .inl ⟨wanted_none rfl, showsO_pure hsn rfl (.pointer (some ⟨b, 0, none⟩)) (by simp only [execOp, Act.eval]; go_simp) rfl⟩
    | 3, hi =>
      cases (show some _ = some o from hi)
      have e13 : (f.tmps.getD 13 undef) = .pointer (some ⟨b, 0, none⟩) := depO (V := (VKInt b n base m l la lc xs va vn vc (X.heap.size))) hdep 2 13 (by kernel_rfl) (by kernel_rfl)
      clear hdep hsame hi hlate hfr hkeep
      exact .inl ⟨wanted_none rfl, showsO_pure hsn rfl (.pointer (some ⟨b, 1, none⟩)) (by simp only [execOp, Act.eval]; go_simp) rfl⟩
    | 4, hi =>
      cases (show some _ = some o from hi)
      have e14 : (f.tmps.getD 14 undef) = .pointer (some ⟨b, 1, none⟩) := depO (V := (VKInt b n base m l la lc xs va vn vc (X.heap.size))) hdep 3 14 (by kernel_rfl) (by kernel_rfl)
      clear hdep hsame hi hlate hfr hkeep
      have cc1 := er_cellAt ((hkeep8 15 (.inr (by kernel_rfl)) b XBL.out (ownBK_one _ _ _ _)).trans XBX.out) 1 _ rfl
      exact .inl ⟨wanted_none rfl, showsO_pure hsn rfl (.slice la m lc) (by simp only [execOp, Act.eval]; go_simp) rfl⟩
    | 5, hi =>
      cases (show some _ = some o from hi)
      have e1 : f.tmps.getD 1 undef = .slice va vn vc := hsame.slot 1 (fun i o h => invB2_not 1 (by kernel_rfl) h)
      clear hdep hsame hi hlate hfr hkeep
      exact .inl ⟨wanted_none rfl, showsO_move hsn rfl _ rfl e1⟩
    | 6, hi =>
      cases (show some _ = some o from hi)
      have e0 : f.tmps.getD 0 undef = .pointer (some ⟨b, 0, none⟩) := hsame.slot 0 (fun i o h => invB2_not 0 (by kernel_rfl) h)
      clear hdep hsame hi hlate hfr hkeep
      exact .inl ⟨wanted_none rfl, showsO_move hsn rfl _ rfl e0⟩
    | 7, hi =>
      cases (show some _ = some o from hi)
      have e17 : (f.tmps.getD 17 undef) = .pointer (some ⟨b, 0, none⟩) := depO (V := (VKInt b n base m l la lc xs va vn vc (X.heap.size))) hdep 6 17 (by kernel_rfl) (by kernel_rfl)
      clear hdep hsame hi hlate hfr hkeep
      exact .inl ⟨wanted_none rfl, showsO_pure hsn rfl (.pointer (some ⟨b, 0, none⟩)) (by simp only [execOp, Act.eval]; go_simp) rfl⟩
    | 8, hi =>
      cases (show some _ = some o from hi)
      have e18 : (f.tmps.getD 18 undef) = .pointer (some ⟨b, 0, none⟩) := depO (V := (VKInt b n base m l la lc xs va vn vc (X.heap.size))) hdep 7 18 (by kernel_rfl) (by kernel_rfl)
      clear hdep hsame hi hlate hfr hkeep
      exact .inl ⟨wanted_none rfl, showsO_pure hsn rfl (.pointer (some ⟨b, 0, none⟩)) (by simp only [execOp, Act.eval]; go_simp) rfl⟩
    | 9, hi =>
      cases (show some _ = some o from hi)
      have e19 : (f.tmps.getD 19 undef) = .pointer (some ⟨b, 0, none⟩) := depO (V := (VKInt b n base m l la lc xs va vn vc (X.heap.size))) hdep 8 19 (by kernel_rfl) (by kernel_rfl)
      clear hdep hsame hi hlate hfr hkeep
      have cc0 := er_cellAt ((hkeep8 15 (.inr (by kernel_rfl)) b XBL.out (ownBK_one _ _ _ _)).trans XBX.out) 0 _ rfl
      exact .inl ⟨wanted_none rfl, showsO_pure hsn rfl (.int .i64 ((n + 1 : Nat) : Int)) (by simp only [execOp, Act.eval]; go_simp) rfl⟩
    | 10, hi =>
      cases (show some _ = some o from hi)
      have e16 : (f.tmps.getD 16 undef) = .slice va vn vc := depO (V := (VKInt b n base m l la lc xs va vn vc (X.heap.size))) hdep 5 16 (by kernel_rfl) (by kernel_rfl)
      have e20 : (f.tmps.getD 20 undef) = .int .i64 ((n + 1 : Nat) : Int) := depO (V := (VKInt b n base m l la lc xs va vn vc (X.heap.size))) hdep 9 20 (by kernel_rfl) (by kernel_rfl)
      clear hdep hsame hi hlate hfr hkeep
      exact .inl ⟨wanted_none rfl, showsO_build hsn rfl 93 #[(0, .tmp 16), (2, .tmp 20)] rfl #[.slice va vn vc, .slice none 0 0, .int .i64 ((n + 1 : Nat) : Int)] (by simp only [List.map_toArray, List.map_cons, List.map_nil, Act.eval]; rw [e16, e20]; exact built_heldInt _ _ _ _) rfl⟩
    | 11, hi =>
      cases (show some _ = some o from hi)
      have e21 : (f.tmps.getD 21 undef) = .agg #[.slice va vn vc, .slice none 0 0, .int .i64 ((n + 1 : Nat) : Int)] := depO (V := (VKInt b n base m l la lc xs va vn vc (X.heap.size))) hdep 10 21 (by kernel_rfl) (by kernel_rfl)
      clear hdep hsame hi hlate hfr hkeep
      exact .inl ⟨wanted_none rfl, showsO_built hsn rfl 1 93 #[.slice va vn vc, .slice none 0 0, .int .i64 ((n + 1 : Nat) : Int)] (run_bs_heldInt u (.tmp 21) rfl _ _ _ _ e21) (fun h => h)⟩
    | 12, hi =>
      cases (show some _ = some o from hi)
      have e15 : (f.tmps.getD 15 undef) = .slice la m lc := depO (V := (VKInt b n base m l la lc xs va vn vc (X.heap.size))) hdep 4 15 (by kernel_rfl) (by kernel_rfl)
      have e22 : BuiltV own u (f.tmps.getD 22 undef) 1 93 #[.slice va vn vc, .slice none 0 0, .int .i64 ((n + 1 : Nat) : Int)] := depO (V := (VKInt b n base m l la lc xs va vn vc (X.heap.size))) hdep 11 22 (by kernel_rfl) (by kernel_rfl)
      clear hdep hsame hi hlate hfr
      exact .inl ⟨wanted_none rfl, showsO_appendW hsn hkeep rfl (.tmp 15) (.tmp 22) 60 rfl base 93 j0 (.agg #[.slice none 0 0, .slice none 0 0, .int .i64 0]) 3 56 under_heldInt RJ.out.1 RJ.out.2.1 RJ.out.2.2.1 RJ.out.2.2.2 rfl (by decide) (.slice la m lc) m xs e15 OX.out (fun j hj => ownBK_two hj (RNB.out j hj)) e22 rfl (by simp [Value.oneCell']) Q1.out Q2.out QB.out (fun _ _ _ h => h)⟩
    | 13, hi =>
      cases (show some _ = some o from hi)
      have e11 : (f.tmps.getD 11 undef) = .pointer (some ⟨b, 0, none⟩) := depO (V := (VKInt b n base m l la lc xs va vn vc (X.heap.size))) hdep 0 11 (by kernel_rfl) (by kernel_rfl)
      clear hdep hsame hi hlate hfr hkeep
      exact .inl ⟨wanted_none rfl, showsO_pure hsn rfl (.pointer (some ⟨b, 0, none⟩)) (by simp only [execOp, Act.eval]; go_simp) rfl⟩
    | 14, hi =>
      cases (show some _ = some o from hi)
      have e24 : (f.tmps.getD 24 undef) = .pointer (some ⟨b, 0, none⟩) := depO (V := (VKInt b n base m l la lc xs va vn vc (X.heap.size))) hdep 13 24 (by kernel_rfl) (by kernel_rfl)
      clear hdep hsame hi hlate hfr hkeep
      exact .inl ⟨wanted_none rfl, showsO_pure hsn rfl (.pointer (some ⟨b, 1, none⟩)) (by simp only [execOp, Act.eval]; go_simp) rfl⟩
    | 15, hi =>
      cases (show some _ = some o from hi)
      have e23 : GrownW own u 12 base 93 3 (f.tmps.getD 23 undef) (m + 1) (xs ++ (#[.slice va vn vc, .slice none 0 0, .int .i64 ((n + 1 : Nat) : Int)] : Array Value).toList) (.slice la m lc) (X.heap.size) := depO (V := (VKInt b n base m l la lc xs va vn vc (X.heap.size))) hdep 12 23 (by kernel_rfl) (by kernel_rfl)
      have e25 : (f.tmps.getD 25 undef) = .pointer (some ⟨b, 1, none⟩) := depO (V := (VKInt b n base m l la lc xs va vn vc (X.heap.size))) hdep 14 25 (by kernel_rfl) (by kernel_rfl)
      clear hdep hsame hi hlate hfr hkeep
      have hst := er_cellAt ((hkeep8 15 (.inl rfl) b XBL.out (ownBK_one _ _ _ _)).trans XBX.out) 1 _ rfl
      have hfr2 : u.frozen? ⟨b, 1, none⟩ = false := by simp [World.frozen?, ((hkeep8 15 (.inl rfl) b XBL.out (ownBK_one _ _ _ _)).trans XBX.out)]
      obtain ⟨a1, c1, ev, _, _, _⟩ := own_shapeK e23.1.1
      rw [ev] at e23
      have hob : own b = some 15 := (hsn.owns b XBL.out).trans (ownBK_one _ _ _ _)
      have HQ : ∀ {v}, GrownW own u 12 base 93 3 v (m + 1) (xs ++ (#[.slice va vn vc, .slice none 0 0, .int .i64 ((n + 1 : Nat) : Int)] : Array Value).toList) (.slice la m lc) (X.heap.size) → GrownW own u 12 base 93 3 v (m + 1) (xs ++ (#[.slice va vn vc, .slice none 0 0, .int .i64 ((n + 1 : Nat) : Int)] : Array Value).toList) (.slice la m lc) (X.heap.size) := fun h => h
      exact .inl ⟨wanted_none rfl, showsO_store_cell hsn hkeep8 rfl b 1 #[.int .i64 ((n + 1 : Nat) : Int), (.slice la m lc), l 2, l 3, l 4, l 5, l 6, l 7, l 8, l 9, l 10, l 11, l 12, l 13, l 14, l 15, l 16] 77 XBX.out (ownBK_one _ _ _ _) (.slice a1 (m + 1) c1) (by simp only [execOp, Act.eval]; go_simp) (fun h => ⟨_, h, grownW_setCellK (HQ e23) b 1 _ hob (by decide)⟩)⟩
    | n + 16, hi => exact absurd hi (by simp)
  · intro f u own hsame hsn hall
    have q11 : f.tmps.getD 11 undef = .pointer (some ⟨b, 0, none⟩) := finO (V := (VKInt b n base m l la lc xs va vn vc (X.heap.size))) hall 0 11 rfl
    have q12 : f.tmps.getD 12 undef = .pointer (some ⟨b, 0, none⟩) := finO (V := (VKInt b n base m l la lc xs va vn vc (X.heap.size))) hall 1 12 rfl
    have q13 : f.tmps.getD 13 undef = .pointer (some ⟨b, 0, none⟩) := finO (V := (VKInt b n base m l la lc xs va vn vc (X.heap.size))) hall 2 13 rfl
    have q14 : f.tmps.getD 14 undef = .pointer (some ⟨b, 1, none⟩) := finO (V := (VKInt b n base m l la lc xs va vn vc (X.heap.size))) hall 3 14 rfl
    have q15 : f.tmps.getD 15 undef = .slice la m lc := finO (V := (VKInt b n base m l la lc xs va vn vc (X.heap.size))) hall 4 15 rfl
    have q16 : f.tmps.getD 16 undef = .slice va vn vc := finO (V := (VKInt b n base m l la lc xs va vn vc (X.heap.size))) hall 5 16 rfl
    have q17 : f.tmps.getD 17 undef = .pointer (some ⟨b, 0, none⟩) := finO (V := (VKInt b n base m l la lc xs va vn vc (X.heap.size))) hall 6 17 rfl
    have q18 : f.tmps.getD 18 undef = .pointer (some ⟨b, 0, none⟩) := finO (V := (VKInt b n base m l la lc xs va vn vc (X.heap.size))) hall 7 18 rfl
    have q19 : f.tmps.getD 19 undef = .pointer (some ⟨b, 0, none⟩) := finO (V := (VKInt b n base m l la lc xs va vn vc (X.heap.size))) hall 8 19 rfl
    have q20 : f.tmps.getD 20 undef = .int .i64 ((n + 1 : Nat) : Int) := finO (V := (VKInt b n base m l la lc xs va vn vc (X.heap.size))) hall 9 20 rfl
    have q21 : f.tmps.getD 21 undef = .agg #[.slice va vn vc, .slice none 0 0, .int .i64 ((n + 1 : Nat) : Int)] := finO (V := (VKInt b n base m l la lc xs va vn vc (X.heap.size))) hall 10 21 rfl
    obtain ⟨g22, q22, o22, m22⟩ : BuiltV own u (f.tmps.getD 22 undef) 1 93 #[.slice va vn vc, .slice none 0 0, .int .i64 ((n + 1 : Nat) : Int)] := finO (V := (VKInt b n base m l la lc xs va vn vc (X.heap.size))) hall 11 22 rfl
    have m23 := finO (V := (VKInt b n base m l la lc xs va vn vc (X.heap.size))) hall 12 23 rfl
    obtain ⟨r23, q23⟩ : ∃ r, f.tmps.getD 23 undef = r := ⟨_, rfl⟩
    rw [q23] at m23
    have q24 : f.tmps.getD 24 undef = .pointer (some ⟨b, 0, none⟩) := finO (V := (VKInt b n base m l la lc xs va vn vc (X.heap.size))) hall 13 24 rfl
    have q25 : f.tmps.getD 25 undef = .pointer (some ⟨b, 1, none⟩) := finO (V := (VKInt b n base m l la lc xs va vn vc (X.heap.size))) hall 14 25 rfl
    obtain ⟨s1, ⟨ob, hbb⟩, ⟨gw, gf⟩, gz⟩ := finN (V := (VKInt b n base m l la lc xs va vn vc (X.heap.size))) hall 15 rfl
    obtain rfl := frame_eq hsame [(11, .pointer (some ⟨b, 0, none⟩)), (12, .pointer (some ⟨b, 0, none⟩)), (13, .pointer (some ⟨b, 0, none⟩)), (14, .pointer (some ⟨b, 1, none⟩)), (15, .slice la m lc), (16, .slice va vn vc), (17, .pointer (some ⟨b, 0, none⟩)), (18, .pointer (some ⟨b, 0, none⟩)), (19, .pointer (some ⟨b, 0, none⟩)), (20, .int .i64 ((n + 1 : Nat) : Int)), (21, .agg #[.slice va vn vc, .slice none 0 0, .int .i64 ((n + 1 : Nat) : Int)]), (22, .slice (some ⟨g22, 0, none⟩) 1 1), (23, r23), (24, .pointer (some ⟨b, 0, none⟩)), (25, .pointer (some ⟨b, 1, none⟩))] (by kernel_rfl) ⟨q11, q12, q13, q14, q15, q16, q17, q18, q19, q20, q21, q22, q23, q24, q25, trivial⟩
    clear hall hsame q11 q12 q13 q14 q15 q16 q17 q18 q19 q20 q21 q22 q23 q24 q25
    simp only [List.foldl, List.setIfInBounds_toArray, List.set_cons_succ, List.set_cons_zero]
    have kbr := hsn.keepBK
    have SNE := Bx.mk (fun j (hj : s1.ownBlock = some j) => (show j ≠ b by
      rintro rfl
      rcases gf j hj with h1 | h1 <;> rw [ob] at h1 <;> cases h1))
    have HBB := Bx.mk hbb; have GW := Bx.mk gw; have GZ := Bx.mk gz; have KBR := Bx.mk kbr
    clear hbb gw gz kbr gf ob hsn
    go_wp2_with fail
    go_end0
    refine ⟨rfl, s1, ⟨HBB.out⟩, GW.out, ?_, fun k hk => ⟨SNE.out k hk, ?_⟩⟩
    · rw [HS.out]
      exact (KX0.out.mono (S' := fun k => k = b ∨ (Value.slice la m lc).ownBlock = some k) (fun j _ h => .inl h)).trans KBR.out (fun _ _ h => h)
    · rw [HS.out]
      rcases GZ.out k hk with h1 | h1
      · exact .inl h1
      · exact .inr (Nat.le_trans KX0.out.size h1)
end Go.Proofs.YtdepmjgibenejaaGreatDoor
