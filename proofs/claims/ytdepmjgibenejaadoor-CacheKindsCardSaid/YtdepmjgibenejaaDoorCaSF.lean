/- Caches of string, int: New, Keys. -/
import Derived.Test.YtdepmjgibenejaaDoorCaSE
import Derived.Test.YtdepmjgibenejaaDoorErrB
namespace Go.Proofs.YtdepmjgibenejaaDoor
set_option maxRecDepth 100000
open Go.RowKit Go.Maps
theorem makeSS (w : World) : (Instr.makeSlice 51 (.int .i64 1) (.int .i64 1)).run Tryd.prog w = .ok (.slice (some ⟨w.heap.size, 0, none⟩) 1 1) (w.alloc (.cells zeroS 87)) := by kernel_rfl
theorem builtCS (m : Int) (b : Option Nat) (a : Option Addr) (n c : Nat) : Tryd.prog.built 54 [(0, .int .i64 m), (1, .map b), (2, .slice a n c)] = some #[.int .i64 m, .map b, .slice a n c, .slice none 0 0] := by kernel_rfl
theorem infoKS : (Tryd.prog.info? 9).map (fun i => (i.zero, i.size, i.bytes)) = some (some (.string ⟨#[]⟩), 1, 16) := by kernel_rfl
/-- the keys' cells -/
def keycS (es : List (ByteArray × Int)) : List Value := es.map fun x => .string x.1
theorem olF_next {κ ν : Type} {its : List (CaI κ ν)} {o : List Nat} (h : OrdI its o) {t : Nat} (ht : t < o.length) : olF its o[t] = (o ++ [0])[t + 1]'(by simp; omega) := by
  obtain ⟨e1, _⟩ := eraseIdx_split ht
  have h1 := h.lk
  rw [e1] at h1
  have h2 := lk_head (lk_split.1 h1).2
  rw [h2]
  rcases Nat.lt_or_ge (t + 1) o.length with h3 | h3
  · rw [List.getElem_append_left h3, List.drop_eq_getElem_cons h3]; rfl
  · have h4 : o.drop (t + 1) = [] := List.drop_eq_nil_of_le h3
    have h5 : t + 1 = o.length := by omega
    rw [h4]
    simp [h5]
set_option maxHeartbeats 1600000 in
theorem cnew_anyS (w : World) (n : Nat) (hn : n ≤ 1024) : Calls Tryd.prog 18 #[.int .i64 (n : Int)] w fun e w' => ∃ r, e = .returned (.tuple #[.pointer (some ⟨r, 0, none⟩), .nilIface]) ∧ ∃ B, CaXS w.heap.size w' r n [] B ∧ (∀ k, B k → w.heap.size ≤ k) ∧ Below w.heap.size w w' := by
  have f0 : ¬ (n : Int) < 0 := by omega
  have f1 : ¬ (1024 : Int) < (n : Int) := by omega
  have hmm := @run_makeMap Tryd.prog
  have hms := makeSS
  have H1024 := Bx.mk hn
  clear hn
  go_enter Tryd.func18, Tryd.ntmps18
  go_wp2_with (guard_target =~ wpList _ _ _ (⟨some 14, _, _, _, _, _⟩ :: _) _ _; refine wpList_build_c (by simp [Region.wanted]) 54 #[(0, .tmp 11), (1, .tmp 12), (2, .tmp 13)] rfl #[.int .i64 (n : Int), .map (some w.heap.size), .slice (some ⟨w.heap.size + 1, 0, none⟩) 1 1, .slice none 0 0] (by simp only [List.map_toArray, List.map_cons, List.map_nil]; exact builtCS _ _ _ _ _) ?_)
  go_ret2
  obtain ⟨w1, hw1⟩ : ∃ w1, w1 = w.alloc (.map #[] 0) := ⟨_, rfl⟩
  have s1 : w1.heap.size = w.heap.size + 1 := by rw [hw1]; simp
  have b1 : Below w.heap.size w w1 := by rw [hw1]; exact er_al (Below.refl _ _) _
  have m1 : w1.ownsMap Tryd.prog 9 (plainElem Tryd.prog 3) w.heap.size 0 (.map [] : DataW Unit) := by rw [hw1]; exact World.ownsMap_made _ _ _ _
  obtain ⟨w2, hw2⟩ : ∃ w2, w2 = w1.alloc (.cells zeroS 87) := ⟨_, rfl⟩
  have s2 : w2.heap.size = w.heap.size + 2 := by rw [hw2]; simp [s1]
  have b2 : Below w1.heap.size w1 w2 := by rw [hw2]; exact er_al (Below.refl _ _) _
  have g2 : w2.heap[w.heap.size + 1]? = some (.cells zeroS 87 (0, 0)) := by rw [hw2, ← s1]; exact heap_alloc_new _ _
  have m2 := ownsMap_belowS m1 b2
  obtain ⟨w3, hw3⟩ : ∃ w3, w3 = w2.alloc (.cells #[.int .i64 (n : Int), .map (some w.heap.size), .slice (some ⟨w.heap.size + 1, 0, none⟩) 1 1, .slice none 0 0] 54) := ⟨_, rfl⟩
  have b3 : Below w2.heap.size w2 w3 := by rw [hw3]; exact er_al (Below.refl _ _) _
  have g3 : w3.heap[w.heap.size + 2]? = some (.cells #[.int .i64 (n : Int), .map (some w.heap.size), .slice (some ⟨w.heap.size + 1, 0, none⟩) 1 1, .slice none 0 0] 54 (0, 0)) := by rw [hw3, ← s2]; exact heap_alloc_new _ _
  have g4 := (b3.block _ (Array.getElem?_eq_some_iff.1 g2).1).trans g2
  have m3 := ownsMap_belowS m2 b3
  have hall : Below w.heap.size w w3 := (b1.trans (b2.mono b1.size)).trans (b3.mono (Nat.le_trans b1.size b2.size))
  have hM : CaMS w.heap.size w3 (w.heap.size + 2) w.heap.size n [⟨⟨#[]⟩, 0, 0, 0⟩] (w.heap.size + 1) 1 1 zeroS [] (.slice none 0 0) (.map []) :=
    ⟨g3, by omega, Nat.le_refl _, rfl, ⟨g4, by omega, Nat.le_refl _, by decide, by rfl, by rfl, by rfl⟩, World.ownsRow_nil _ _ _ _, ownsMap_tight m3, fun x hx => by rw [List.mem_singleton.1 hx]; exact ⟨rfl, rfl⟩⟩
  have hfin : ((w.alloc (.map #[] 0)).alloc (.cells zeroS 87)).alloc (.cells #[.int .i64 (n : Int), .map (some w.heap.size), .slice (some ⟨w.heap.size + 1, 0, none⟩) 1 1, .slice none 0 0] 54) = w3 := by rw [hw3, hw2, hw1]
  refine ⟨w.heap.size + 2, ?_, fun k => CaB (w.heap.size + 2) w.heap.size (w.heap.size + 1) (.slice none 0 0) k, ?_, fun k hk => ?_, ?_⟩
  · simp
  · first | rw [hfin] | skip
    exact ⟨H1024.out, w.heap.size, _, _, _, _, _, _, _, _, [], hM, CaV.new klS kwS n ⟨⟨#[]⟩, 0, 0, 0⟩ rfl rfl, fun k => Iff.rfl⟩
  · rcases hk with rfl | rfl | rfl | h
    · omega
    · exact Nat.le_refl _
    · omega
    · cases h
  · first | rw [hfin] | skip
    exact hall
def lenVS : Value → Nat
  | .slice _ n _ => n
  | _ => 0
theorem cell_of_blockS {w w' : World} {g o : Nat} (h : w'.heap[g]? = w.heap[g]?) : w'.cell? ⟨g, o, none⟩ = w.cell? ⟨g, o, none⟩ := by
  unfold World.cell?
  rw [h]
set_option maxHeartbeats 1600000 in
theorem keys_anyS (base : Nat) (w : World) (r most : Nat) (es : List (ByteArray × Int)) (B : Nat → Prop) (h : CaXS base w r most es B) : Calls Tryd.prog 17 #[.pointer (some ⟨r, 0, none⟩)] w fun e w' => ∃ v, e = .returned v ∧ w'.ownsRow w.heap.size 9 1 v es.length (keycS es) ∧ Below w.heap.size w w' := by
  obtain ⟨h0, bm, its, g, n, c, cur, fr, sf, D, o, m, v, hB⟩ := h
  have c1 := er_cellAt m.hb 1 _ rfl
  have c2 := er_cellAt m.hb 2 _ rfl
  have hmn := fun w => run_eql_map_nil (P := Tryd.prog) w 50 9 3 (some bm) Tryd.underlying50
  have cz := m.row.cell (icells_ol m.sz (j := 0) v.ord.pos)
  rw [Nat.zero_mul, Nat.zero_add] at cz
  have f0 : (0 : Int) < (n : Int) := by have h1 := v.ord.pos; have h2 := m.nl; omega
  obtain ⟨L, hL⟩ : ∃ L, L = es.length := ⟨_, rfl⟩
  have hlo : o.length = L := by rw [hL]; exact v.len
  obtain ⟨q, hq⟩ : ∃ q : Nat → Nat, q = fun t => (o ++ [0]).getD t 0 := ⟨_, rfl⟩
  have hq0 : olF its 0 = q 0 := by
    rw [v.ord.head, hq]
    cases o <;> rfl
  rw [hq0] at cz
  have HQ1 : Bx (∀ t, t < L → q t ≠ 0 ∧ q t < n ∧ olF its (q t) = q (t + 1)) := ⟨fun t ht => by
    have hto : t < o.length := by omega
    have e1 : q t = o[t] := by rw [hq]; show (o ++ [0]).getD t 0 = _; rw [List.getD_eq_getElem?_getD, List.getElem?_append_left hto, List.getElem?_eq_getElem hto]; rfl
    have e2 : q (t + 1) = (o ++ [0])[t + 1]'(by simp; omega) := by rw [hq]; show (o ++ [0]).getD (t + 1) 0 = _; rw [List.getD_eq_getElem?_getD, List.getElem?_eq_getElem (by simp; omega)]; rfl
    rw [e1, e2]
    exact ⟨fun e => v.ord.z (e ▸ List.getElem_mem _), by rw [m.nl]; exact v.ord.lt _ (List.getElem_mem _), olF_next v.ord hto⟩⟩
  have HQ2 : Bx (q L = 0) := ⟨by rw [hq]; show (o ++ [0]).getD L 0 = 0; rw [← hlo]; simp⟩
  have HQ3 : Bx (∀ t (ht : t < es.length), kvF its (q t) = some es[t]) := ⟨fun t ht => by
    have hto : t < o.length := by rw [v.len]; exact ht
    have e1 : q t = o[t] := by rw [hq]; show (o ++ [0]).getD t 0 = _; rw [List.getD_eq_getElem?_getD, List.getElem?_append_left hto, List.getElem?_eq_getElem hto]; rfl
    rw [e1]; exact v.kvt ht⟩
  have HMM := Bx.mk m; have HL := Bx.mk hL; have LB := Bx.mk (show L ≤ 1024 by rw [hL]; exact Nat.le_trans v.le h0)
  obtain ⟨i0, hi, hz0, hz1, hz2⟩ := info_parts infoKS
  have RI := Bx.mk (And.intro hi (And.intro hz0 (And.intro hz1 hz2)))
  have ON := Bx.mk (World.ownsRow_nil w w.heap.size 9 1)
  clear m v hB h0 hq hq0 hlo hL hi hz0 hz1 hz2
  go_enter Tryd.func17, Tryd.ntmps17
  go_wp2_with fail
  clear c1 c2 cz hmn f0
  go_loopw [3, 4] (fun lv iv wr => ∃ t : Nat, t ≤ L ∧ iv = .int .i64 (q t : Int) ∧ wr.ownsRow w.heap.size 9 1 lv t (keycS (es.take t)) ∧ Below w.heap.size w wr) (fun lv _ _ => L - lenVS lv)
  case atStart => exact ⟨0, Nat.zero_le _, rfl, ON.out, Below.refl _ _⟩
  case round =>
    obtain ⟨t, ht, rfl, ho, hb⟩ := hrel
    obtain ⟨a3, c3, rfl⟩ := own_shapeC ho
    have HO := Bx.mk ho; have BW := Bx.mk hb
    clear ho hb
    by_cases hlt : t < L
    · obtain ⟨qa, qb, qc⟩ := HQ1.out t hlt
      have TL := Bx.mk hlt
      have TE := Bx.mk (show t < es.length by rw [← HL.out]; exact hlt)
      have mw := HMM.out.below BW.out
      have c2 := er_cellAt mw.hb 2 _ rfl
      obtain ⟨-, ck⟩ := mw.value (HQ3.out t TE.out)
      obtain ⟨j, hj⟩ : ∃ j, j = q t := ⟨_, rfl⟩
      obtain ⟨j2, hj2⟩ : ∃ j2, j2 = q (t + 1) := ⟨_, rfl⟩
      rw [← hj] at qa qb qc ck ⊢
      rw [← hj2] at qc
      obtain ⟨kx, hkx⟩ : ∃ kx, kx = (es[t]'(TE.out)).1 := ⟨_, rfl⟩
      rw [← hkx] at ck
      have co := mw.row.cell (icells_ol mw.sz (j := j) (by rw [← mw.nl]; exact qb))
      rw [qc] at co
      have C2 := Bx.mk c2; have CO := Bx.mk co; have RL := Bx.mk (Array.getElem?_eq_some_iff.1 mw.hb).1; have GL := Bx.mk (Array.getElem?_eq_some_iff.1 mw.row.hb).1
      have J2 := Bx.mk hj2
      have f1 : ¬ (j : Int) = 0 := by omega
      have f1b : ((j : Int) == 0) = false := beq_eq_false_iff_ne.2 f1
      have f1c : (j == 0) = false := beq_eq_false_iff_ne.2 qa
      have f3 : (j : Int) < (n : Int) := by omega
      have KX : Bx (keycS (es.take (t + 1)) = keycS (es.take t) ++ [.string kx]) := ⟨by unfold keycS; rw [List.take_succ_eq_append_getElem TE.out, List.map_append, hkx]; rfl⟩
      clear mw qc co hj hj2 hkx qa qb ht hlt
      go_wp2_with (at_builtin; refine wpList_append_own_at _ rfl _ _ 62 rfl w.heap.size 9 i0 (.string ⟨#[]⟩) 1 16 Tryd.underlying62 RI.out.1 RI.out.2.1 RI.out.2.2.1 RI.out.2.2.2 rfl (by decide) (.slice a3 t c3) t (keycS (es.take t)) rfl (HO.out.alloc _) ⟨wr.heap.size, 0, none⟩ 1 1 [.string kx] rfl rfl (cell_one_new _ _ _) (fun u hu => by rw [List.mem_singleton.1 hu]; rfl) (by have := TL.out; have := LB.out; unfold maxLen; omega) (by have := TL.out; have := LB.out; omega) (by have := BW.out.size; simp; omega) ?_; intro lv2 w2 hown hgrow _ hloc; obtain ⟨a4, c4, rfl⟩ := own_shapeC hown; have kk := (Keep.of_below (er_al (Below.refl wr.heap.size wr) (.cells #[.string kx] 9)) (fun j => (Value.slice a3 t c3).ownBlock = some j)).trans (Keep.of_grown hgrow) (fun _ _ h => h); have bw2 := BW.out.trans (kk.below (B := w.heap.size) BW.out.size (fun j hj => ownsRow_fresh HO.out j hj)); have BW2 := Bx.mk bw2; have mw2 := HMM.out.below bw2; have c2b := er_cellAt mw2.hb 2 _ rfl; have cob := (kk.block g GL.out (fun e => by have h1 := ownsRow_fresh HO.out g e; have h2 := (Array.getElem?_eq_some_iff.1 HMM.out.row.hb).1; omega)); have co2 : w2.cell? ⟨g, j * 4 + 3, none⟩ = some (.int .i64 (j2 : Int)) := (cell_of_blockS cob).trans CO.out; have HO2 := Bx.mk hown; clear hown hgrow hloc kk bw2 mw2 cob c2 ck)
      go_roundw
      case rel => exact ⟨t + 1, TL.out, by rw [J2.out], by rw [KX.out]; exact HO2.out, BW2.out⟩
      case measure => have := TL.out; simp [lenVS]; omega
    · obtain rfl : t = L := by omega
      have f1 : (q t : Int) = 0 := by rw [HQ2.out]; rfl
      rw [HQ2.out]
      clear ht hlt f1
      go_wp2_with fail
      go_ret
      exact ⟨_, rfl, by have := HO.out; rw [HL.out, List.take_length, ← HL.out] at this; rw [← HL.out]; exact this, BW.out⟩
end Go.Proofs.YtdepmjgibenejaaDoor
