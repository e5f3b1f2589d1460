/- cartularylaw13: one op. -/
import Derived.Test.YtdepmjgibenejaaGreatDoorR2
import Derived.Test.YtdepmjgibenejaaGreatDoorOwnK
namespace Go.Proofs.YtdepmjgibenejaaGreatDoor.K
set_option maxRecDepth 100000
open Go.RowKit
def DoesR (base : Nat) (w : World) (wb : Nat) (e : Ending) (w' : World) : Prop :=
  e = .returned (.bool true) ∧ (∃ s r most es B L, CW base w' wb s r most es B L) ∧ Below base w w'
open Classical in
noncomputable def ownD (Bk : Nat → Prop) (rk : Nat) : Nat → Option Nat := fun j => if Bk j then some 3 else if j = rk then some 7 else none
theorem ownD_b {Bk : Nat → Prop} {rk j : Nat} (h : Bk j) : ownD Bk rk j = some 3 := if_pos h
theorem ownD_r {Bk : Nat → Prop} {rk : Nat} (h : ¬ Bk rk) : ownD Bk rk rk = some 7 := by unfold ownD; rw [if_neg h, if_pos rfl]
theorem ownD_n {Bk : Nat → Prop} {rk j : Nat} (h : ¬ Bk j) (h2 : j ≠ rk) : ownD Bk rk j = none := by unfold ownD; rw [if_neg h, if_neg h2]
/-- the program's cache behind Drop -/
def DrS (own : Nat → Option Nat) (w : World) (v : Value) (d : Bool) (base WS sk mk : Nat) (es' : List (Int × Int)) (Bk : Nat → Prop) : Prop :=
  v = .bool d ∧ ∃ B', CaXI base w sk mk es' B' ∧ (∀ j, B' j → own j = some 3 ∨ own j = none) ∧ ∀ j, B' j → Bk j ∨ WS ≤ j
/-- the document's behind Drop -/
def DrR (own : Nat → Option Nat) (w : World) (v : Value) (d : Bool) (base rk mk : Nat) (es' : List (Int × Int)) : Prop :=
  v = .bool d ∧ own rk = some 7 ∧ ∃ L', RfM base w rk mk es' L' ∧ ∀ j, L'.ownBlock = some j → own j = none
theorem Rel.kp {mk : Nat → Option Nat} {i : Nat} {own own' : Nat → Option Nat} {w w' : World} (r : Rel mk i own w own' w') : Keep (fun j => own j = some i) w w' := ⟨r.os, r.tape, r.output, r.size, fun k hk hn => r.keep k hk hn⟩
theorem DrS.stable {mk' : Nat → Option Nat} {own own' : Nat → Option Nat} {w w' : World} {i : Nat} {v : Value} {d : Bool} {base WS sk mk : Nat} {es' : List (Int × Int)} {Bk : Nat → Prop} (h : DrS own w v d base WS sk mk es' Bk) (r : Rel mk' i own w own' w') (hi : i ≠ 3) : DrS own' w' v d base WS sk mk es' Bk := by
  obtain ⟨e, B', h1, h2, h3⟩ := h
  refine ⟨e, B', h1.kept r.kp (fun j hj e2 => ?_), fun j hj => ?_, h3⟩
  · rcases h2 j hj with h4 | h4 <;> rw [h4] at e2
    · exact hi (Option.some.inj e2).symm
    · cases e2
  · rw [r.owns j (h1.lt j hj)]; exact h2 j hj
theorem DrR.stable {mk' : Nat → Option Nat} {own own' : Nat → Option Nat} {w w' : World} {i : Nat} {v : Value} {d : Bool} {base rk mk : Nat} {es' : List (Int × Int)} (h : DrR own w v d base rk mk es') (r : Rel mk' i own w own' w') (hi : i ≠ 7) : DrR own' w' v d base rk mk es' := by
  obtain ⟨e, h0, L', h1, h2⟩ := h
  have hl := (Array.getElem?_eq_some_iff.1 h1.hb).1
  refine ⟨e, (r.owns rk hl).trans h0, L', h1.kept r.kp (fun e2 => ?_) (fun j hj e2 => ?_), fun j hj => ?_⟩
  · rw [h0] at e2; exact hi (Option.some.inj e2).symm
  · rw [h2 j hj] at e2; cases e2
  · rw [r.owns j (ownsRow_lt h1.row j hj)]; exact h2 j hj
theorem cell_setCell_ne (w : World) (g a b : Nat) (v : Value) (h : a ≠ b) : (w.setCell ⟨g, a, none⟩ v).cell? ⟨g, b, none⟩ = w.cell? ⟨g, b, none⟩ := by
  unfold World.setCell World.cell?
  simp only [Array.getElem?_modify, if_true]
  cases hg : w.heap[g]? with
  | none => rfl
  | some o => cases o <;> simp [h]
theorem frozen_setCell_ne (w : World) (g a b : Nat) (v : Value) : (w.setCell ⟨g, a, none⟩ v).frozen? ⟨g, b, none⟩ = w.frozen? ⟨g, b, none⟩ := by
  unfold World.setCell World.frozen?
  simp only [Array.getElem?_modify, if_true]
  cases hg : w.heap[g]? with
  | none => rfl
  | some o => cases o <;> rfl
def VDr (base WS sk rk mk N : Nat) (key : Int) (d : Bool) (es2 : List (Int × Int)) (Bk : Nat → Prop) (oi : Nat) (v : Value) (own : Nat → Option Nat) (w : World) : Prop :=
  match oi with
  | 0 => v = .pointer (some ⟨sk, 0, none⟩)
  | 1 => v = .pointer (some ⟨N, 2, none⟩)
  | 2 => v = .int .i64 key
  | 3 => DrS own w v d base WS sk mk es2 Bk
  | 4 => v = .pointer (some ⟨rk, 0, none⟩)
  | 5 => v = .pointer (some ⟨N, 2, none⟩)
  | 6 => v = .int .i64 key
  | 7 => DrR own w v d base rk mk es2
  | 8 => v = .bool true
  | 9 => v = .bool true
  | _ => True
def VDrmk : Nat → Option Nat := fun _ => none
theorem VDr_mono (base WS sk rk mk N : Nat) (key : Int) (d : Bool) (es2 : List (Int × Int)) (Bk : Nat → Prop) (oi oj : Nat) (v : Value) (own : Nat → Option Nat) (w : World) (own' : Nat → Option Nat) (w' : World) (hij : oi ≠ oj)   (h : VDr base WS sk rk mk N key d es2 Bk oj v own w) (r1 : Rel VDrmk oi own w own' w') : VDr base WS sk rk mk N key d es2 Bk oj v own' w' := by
  unfold VDr at h ⊢
  split at h
  · exact h
  · exact h
  · exact h
  · exact h.stable r1 hij
  · exact h
  · exact h
  · exact h
  · exact h.stable r1 hij
  · exact h
  · exact h
  · trivial

theorem put_both (base : Nat) (W : World) (sk rk mk : Nat) (es : List (Int × Int)) (Bk : Nat → Prop) (Lk : Value) (hX : CaXI base W sk mk es Bk) (hbase : base ≤ W.heap.size) (key val : Int) (hkw : kwI key) :
    ∃ (x : Int) (bb : Bool) (es2 : List (Int × Int)), Calls Tryz.prog 11 #[.pointer (some ⟨sk, 0, none⟩), .int .i64 key, .int .i64 val] W (fun e w' => e = .returned (.tuple #[.int .i64 x, .bool bb]) ∧ CaTI base W w' sk mk es2 Bk) ∧
      ∀ w1, RfM base w1 rk mk es Lk → base ≤ w1.heap.size → Calls Tryz.prog 12 #[.pointer (some ⟨rk, 0, none⟩), .int .i64 key, .int .i64 val] w1 fun e w2 => e = .returned (.tuple #[.int .i64 x, .bool bb]) ∧ ∃ L', RfM base w2 rk mk es2 L' ∧ Keep (fun j => j = rk) w1 w2 := by
  obtain ⟨l1, l2, l3⟩ := hX.le
  have RG : ∀ w1, RfM base w1 rk mk es Lk → base ≤ w1.heap.size → Calls Tryz.prog 12 #[.pointer (some ⟨rk, 0, none⟩), .int .i64 key, .int .i64 val] w1 (RPutR base w1 rk mk es key val) := fun w1 hm hb => rput13_any base w1 rk mk es Lk hm hb (by omega) key val l1
  by_cases hm : key ∈ es.map (·.1)
  · obtain ⟨t, ht, hke⟩ : ∃ t, ∃ h : t < es.length, (es[t]).1 = key := by
      obtain ⟨x, hx, e⟩ := List.mem_map.1 hm
      obtain ⟨t, ht, rfl⟩ := List.mem_iff_getElem.1 hx
      exact ⟨t, ht, e⟩
    refine ⟨0, false, (key, val) :: es.eraseIdx t, put_hitI base W sk mk es Bk hbase hX key hkw val t ht hke, fun w1 h1 h2 => (RG w1 h1 h2).mono fun e w2 hR => ?_⟩
    rcases hR with ⟨t', ht', hke', he, L', hM, hk2, _⟩ | ⟨hx, _⟩ | ⟨hx, _⟩ | ⟨hx, _⟩
    · obtain rfl : t' = t := nodup_inj l3 (i := t') (j := t) (by rw [List.length_map]; exact ht') (by rw [List.length_map]; exact ht) (by rw [List.getElem_map, List.getElem_map, hke', hke])
      exact ⟨he, L', hM, hk2⟩
    all_goals exact absurd hm hx
  · by_cases h0 : mk = 0
    · subst h0
      refine ⟨key, true, es, (put_zeroI base W sk es Bk hbase hX key hkw val hm).mono fun e w' h => ⟨h.1, Bk, hX.below h.2, Keep.of_below h.2 _, fun j hj => .inl hj⟩, fun w1 h1 h2 => (RG w1 h1 h2).mono fun e w2 hR => ?_⟩
      rcases hR with ⟨t', ht', hke', _⟩ | ⟨_, _, he, hb⟩ | ⟨_, hl, _⟩ | ⟨_, es0, y, e1, e2, _⟩
      · exact absurd (List.mem_map.2 ⟨_, List.getElem_mem ht', hke'⟩) hm
      · exact ⟨he, Lk, h1.below hb, Keep.of_below hb _⟩
      · omega
      · rw [e1] at e2; simp at e2
    · by_cases hl : es.length < mk
      · refine ⟨0, false, (key, val) :: es, put_newI base W sk mk es Bk hbase hX key hkw val hm hl, fun w1 h1 h2 => (RG w1 h1 h2).mono fun e w2 hR => ?_⟩
        rcases hR with ⟨t', ht', hke', _⟩ | ⟨_, h3, _⟩ | ⟨_, _, he, L', hM, hk2, _⟩ | ⟨_, es0, y, e1, e2, _⟩
        · exact absurd (List.mem_map.2 ⟨_, List.getElem_mem ht', hke'⟩) hm
        · exact absurd h3 h0
        · exact ⟨he, L', hM, hk2⟩
        · omega
      · have hfull : es.length = mk := by omega
        obtain ⟨es0, y, hes⟩ : ∃ es0 y, es = es0 ++ [y] := ⟨es.dropLast, es.getLast (by intro e; rw [e] at hfull; exact h0 hfull.symm), (List.dropLast_concat_getLast _).symm⟩
        subst hes
        refine ⟨y.1, true, (key, val) :: es0, put_fullI base W sk mk es0 y Bk hbase hX key hkw val hm hfull, fun w1 h1 h2 => (RG w1 h1 h2).mono fun e w2 hR => ?_⟩
        rcases hR with ⟨t', ht', hke', _⟩ | ⟨_, h3, _⟩ | ⟨_, h3, _⟩ | ⟨_, es1, y1, e1, _, he, L', hM, hk2, _⟩
        · exact absurd (List.mem_map.2 ⟨_, List.getElem_mem ht', hke'⟩) hm
        · exact absurd h3 h0
        · omega
        · obtain ⟨e2, e3⟩ := List.append_inj' e1 rfl
          obtain rfl : y = y1 := by simpa using e3
          subst e2
          exact ⟨he, L', hM, hk2⟩
theorem drop_both (base : Nat) (W : World) (sk rk mk : Nat) (es : List (Int × Int)) (Bk : Nat → Prop) (Lk : Value) (hX : CaXI base W sk mk es Bk) (key : Int) (hkw : kwI key) :
    ∃ (d : Bool) (es2 : List (Int × Int)), (∀ u, CaXI base u sk mk es Bk → base ≤ u.heap.size → Calls Tryz.prog 13 #[.pointer (some ⟨sk, 0, none⟩), .int .i64 key] u fun e w' => e = .returned (.bool d) ∧ CaTI base u w' sk mk es2 Bk) ∧
      ∀ u, RfM base u rk mk es Lk → base ≤ u.heap.size → Calls Tryz.prog 14 #[.pointer (some ⟨rk, 0, none⟩), .int .i64 key] u fun e w' => e = .returned (.bool d) ∧ ∃ L', RfM base w' rk mk es2 L' ∧ Keep (fun k => k = rk) u w' ∧ ∀ k, L'.ownBlock = some k → Lk.ownBlock = some k ∨ u.heap.size ≤ k := by
  obtain ⟨l1, l2, l3⟩ := hX.le
  have RG : ∀ u, RfM base u rk mk es Lk → base ≤ u.heap.size → Calls Tryz.prog 14 #[.pointer (some ⟨rk, 0, none⟩), .int .i64 key] u (RDropR base u rk mk es key) := fun u hm hb => rdrop13_any base u rk mk es Lk hm hb (by omega) key
  by_cases hm : key ∈ es.map (·.1)
  · obtain ⟨t, ht, hke⟩ : ∃ t, ∃ h : t < es.length, (es[t]).1 = key := by
      obtain ⟨x, hx, e⟩ := List.mem_map.1 hm
      obtain ⟨t, ht, rfl⟩ := List.mem_iff_getElem.1 hx
      exact ⟨t, ht, e⟩
    refine ⟨true, es.eraseIdx t, fun u h1 h2 => drop_hitI base u sk mk es Bk h2 h1 key hkw t ht hke, fun u h1 h2 => (RG u h1 h2).mono fun e w2 hR => ?_⟩
    rcases hR with ⟨hx, _⟩ | ⟨t', ht', hke', he, L', hM, hk2, hf⟩
    · exact absurd hm hx
    · obtain rfl : t' = t := nodup_inj l3 (i := t') (j := t) (by rw [List.length_map]; exact ht') (by rw [List.length_map]; exact ht) (by rw [List.getElem_map, List.getElem_map, hke', hke])
      exact ⟨he, L', hM, hk2, fun k hk => .inr (hf k hk)⟩
  · refine ⟨false, es, fun u h1 h2 => (drop_missI base u sk mk es Bk h2 h1 key hkw hm).mono fun e w' h => ⟨h.1, Bk, h1.below h.2, Keep.of_below h.2 _, fun j hj => .inl hj⟩, fun u h1 h2 => (RG u h1 h2).mono fun e w2 hR => ?_⟩
    rcases hR with ⟨_, he, hb⟩ | ⟨t', ht', hke', _⟩
    · exact ⟨he, Lk, h1.below hb, Keep.of_below hb _, fun k hk => .inl hk⟩
    · exact absurd (List.mem_map.2 ⟨_, List.getElem_mem ht', hke'⟩) hm
set_option maxHeartbeats 6400000 in
theorem does13_any (A : Nat → Addr) (base : Nat) (w : World) (wb : Nat) (s r most : Nat → Nat) (es : Nat → List (Int × Int)) (B : Nat → Nat → Prop) (L : Nat → Value) (h : CW base w wb s r most es B L) (hbase : base ≤ w.heap.size) (hE : ∀ u, Below base w u → Errs u A) (kd on key val : Int) (hkw : kwI key) :
    Calls Tryz.prog 6 #[.pointer (some ⟨wb, 0, none⟩), .agg #[.int .i64 kd, .int .i64 on, .int .i64 key, .int .i64 val]] w (DoesR base w wb) := by
  obtain ⟨k, hk, hand⟩ := and1 on
  have kb := er_al (Below.refl w.heap.size w) (.cells #[.int .i64 kd, .int .i64 on, .int .i64 key, .int .i64 val] 40)
  have x0 := heap_alloc_new w (.cells #[.int .i64 kd, .int .i64 on, .int .i64 key, .int .i64 val] 40)
  have hN1 : r k ≠ w.heap.size := by have := (Array.getElem?_eq_some_iff.1 (h.rf k hk).hb).1; omega
  have hwl := (Array.getElem?_eq_some_iff.1 h.hb).1
  have HKW := Bx.mk hkw; have HK := Bx.mk hk
  have BW := Bx.mk (kb.mono hbase)
  have HE : Bx (∀ u, Below base w u → Errs u A) := ⟨hE⟩
  have h1 := h.below kb
  have k1 : (k : Int) < 2 := by omega
  have k2 : ¬ (2 : Int) ≤ (k : Int) := by omega
  have k3 : (0 : Int) ≤ (k : Int) := by omega
  go_enter Tryz.func6, Tryz.ntmps6
  go_upto_region 1 with (fail)
  change Code.wp _ _ _ _ (w.alloc (.cells #[.int .i64 kd, .int .i64 on, .int .i64 key, .int .i64 val] 40))
  have bsw : base ≤ (w.alloc (.cells #[.int .i64 kd, .int .i64 on, .int .i64 key, .int .i64 val] 40)).heap.size := Nat.le_trans hbase kb.size
  generalize w.alloc (.cells #[.int .i64 kd, .int .i64 on, .int .i64 key, .int .i64 val] 40) = W at x0 h1 BW bsw ⊢
  obtain ⟨N, hN⟩ : ∃ N, N = w.heap.size := ⟨_, rfl⟩
  rw [← hN] at x0 hN1 ⊢
  have HW := Bx.mk h1; have X0 := Bx.mk x0; have BS := Bx.mk bsw; have NR := Bx.mk hN1
  have XL := Bx.mk (Array.getElem?_eq_some_iff.1 x0).1
  have NB := Bx.mk ((h1.ca k hk).notT x0 (by decide) (by decide) (by decide))
  have NW := Bx.mk (show wb ≠ N by omega)
  have LE := Bx.mk ((h1.ca k hk).le)
  have c0 := h1.cS hk; have c2 := h1.cR hk
  have d0 := er_cellAt x0 0 _ rfl; have d1 := er_cellAt x0 1 _ rfl
  clear h h1 hbase kb x0 bsw hN hN1 hk hkw hE hwl
  go_upto_region 5 with (fail)
  clear c0 c2 d0 d1 hand
  have d2 := er_cellAt X0.out 2 _ rfl; have d3 := er_cellAt X0.out 3 _ rfl
  by_cases h1 : kd = 1
  · subst h1
    by_cases hm : key ∈ (es k).map (·.1)
    · obtain ⟨t, ht, hke⟩ : ∃ t, ∃ h : t < (es k).length, ((es k)[t]).1 = key := by
        obtain ⟨x, hx, e⟩ := List.mem_map.1 hm
        obtain ⟨t, ht, rfl⟩ := List.mem_iff_getElem.1 hx
        exact ⟨t, ht, e⟩
      have C := get_hitI base W (s k) (most k) (es k) (B k) (HW.out.ca k HK.out) key HKW.out t ht hke
      obtain ⟨vv, hvv⟩ : ∃ vv, vv = (es k)[t].2 := ⟨_, rfl⟩
      have hee : (es k)[t] = (key, vv) := by rw [hvv, ← hke]
      rw [hee] at C
      have HT := Bx.mk ht; have HKE : Bx (((es k)[t]'HT.out).1 = key) := ⟨hke⟩; have HVV : Bx (vv = ((es k)[t]'HT.out).2) := ⟨hvv⟩; have HM := Bx.mk hm; have C := Bx.mk C
      clear ht hke hvv hee hm
      go_wp2_with fail
      refine C.out.mono ?_
      rintro e w1 ⟨rfl, B', hX, hK, hNw⟩
      have d2b := er_cellAt ((hK.block N XL.out NB.out).trans X0.out) 2 _ rfl; have d3b := er_cellAt ((hK.block N XL.out NB.out).trans X0.out) 3 _ rfl
      have RM := Bx.mk ((HW.out.rf k HK.out).kept hK ((HW.out.ca k HK.out).notT (HW.out.rf k HK.out).hb (by decide) (by decide) (by decide)) (fun j hj => (HW.out.rf k HK.out).notL (HW.out.ca k HK.out) j hj))
      have S1 := Bx.mk (Nat.le_trans BS.out hK.size)
      have HX := Bx.mk hX; have HKK := Bx.mk hK; have HNN := Bx.mk hNw
      clear hX hK hNw d2 d3
      have RG := Bx.mk (rget13_any base w1 (r k) (most k) (es k) (L k) RM.out S1.out (by have := LE.out; omega) key)
      go_wp2_with fail
      refine RG.out.mono ?_
      rintro e w2 hR
      rcases hR with ⟨hx, _⟩ | ⟨t', ht', hke', rfl, L', hM, hk2, hf⟩
      · exact absurd HM.out hx
      · obtain rfl : t' = t := nodup_inj LE.out.2.2 (i := t') (j := t) (by rw [List.length_map]; exact ht') (by rw [List.length_map]; exact HT.out) (by rw [List.getElem_map, List.getElem_map, hke', HKE.out])
        rw [← HVV.out] at hM ⊢
        have TW := Bx.mk (HW.out.turn2 HK.out HKK.out HX.out HNN.out hM hk2)
        have FINI : Bx (DoesR base w wb (.returned (.bool true)) w2) := ⟨rfl, ⟨_, _, _, _, _, _, (TW.out).1⟩, BW.out.trans ((TW.out).2.below (B := base) BS.out (fun j hj => HW.out.fresh HK.out j hj))⟩
        clear hM hk2 hf d2b d3b k1 k2 k3
        go_wp2_with fail
        go_ret
        exact FINI.out
    · have C := Bx.mk (get_missI base W (s k) (most k) (es k) (B k) (HW.out.ca k HK.out) key HKW.out hm)
      have HM := Bx.mk hm
      clear hm
      go_wp2_with fail
      refine C.out.mono ?_
      rintro e w1 ⟨rfl, hb⟩
      have hK : Keep (B k) W w1 := Keep.of_below hb (B k)
      have hX := (HW.out.ca k HK.out).below hb
      have hNw : ∀ j, B k j → B k j ∨ W.heap.size ≤ j := fun j hj => .inl hj
      clear hb
      have d2b := er_cellAt ((hK.block N XL.out NB.out).trans X0.out) 2 _ rfl; have d3b := er_cellAt ((hK.block N XL.out NB.out).trans X0.out) 3 _ rfl
      have RM := Bx.mk ((HW.out.rf k HK.out).kept hK ((HW.out.ca k HK.out).notT (HW.out.rf k HK.out).hb (by decide) (by decide) (by decide)) (fun j hj => (HW.out.rf k HK.out).notL (HW.out.ca k HK.out) j hj))
      have S1 := Bx.mk (Nat.le_trans BS.out hK.size)
      have HX := Bx.mk hX; have HKK := Bx.mk hK; have HNN := Bx.mk hNw
      clear hX hK hNw d2 d3
      have RG := Bx.mk (rget13_any base w1 (r k) (most k) (es k) (L k) RM.out S1.out (by have := LE.out; omega) key)
      go_wp2_with fail
      refine RG.out.mono ?_
      rintro e w2 hR
      rcases hR with ⟨hx, rfl, hb⟩ | ⟨t', ht', hke', _⟩
      · have TW := Bx.mk (HW.out.turn2 HK.out HKK.out HX.out HNN.out (RM.out.below hb) (Keep.of_below hb _))
        have FINI : Bx (DoesR base w wb (.returned (.bool true)) w2) := ⟨rfl, ⟨_, _, _, _, _, _, (TW.out).1⟩, BW.out.trans ((TW.out).2.below (B := base) BS.out (fun j hj => HW.out.fresh HK.out j hj))⟩
        clear hb d2b d3b k1 k2 k3
        go_wp2_with fail
        go_ret
        exact FINI.out
      · exact absurd (List.mem_map.2 ⟨_, List.getElem_mem ht', hke'⟩) HM.out
  · have f1 : (kd == 1) = false := by simpa using h1
    by_cases h2 : kd = 2
    · subst h2
      obtain ⟨x, bb, es2, hP, hQ⟩ := put_both base W (s k) (r k) (most k) (es k) (B k) (L k) (HW.out.ca k HK.out) BS.out key val HKW.out
      have C := Bx.mk hP; have RQ := Bx.mk hQ
      clear hP hQ h1
      go_wp2_with fail
      refine C.out.mono ?_
      rintro e w1 ⟨rfl, B', hX, hK, hNw⟩
      have d2b := er_cellAt ((hK.block N XL.out NB.out).trans X0.out) 2 _ rfl; have d3b := er_cellAt ((hK.block N XL.out NB.out).trans X0.out) 3 _ rfl
      have RM := Bx.mk ((HW.out.rf k HK.out).kept hK ((HW.out.ca k HK.out).notT (HW.out.rf k HK.out).hb (by decide) (by decide) (by decide)) (fun j hj => (HW.out.rf k HK.out).notL (HW.out.ca k HK.out) j hj))
      have S1 := Bx.mk (Nat.le_trans BS.out hK.size)
      have HX := Bx.mk hX; have HKK := Bx.mk hK; have HNN := Bx.mk hNw
      clear hX hK hNw d2 d3
      have RG := Bx.mk (RQ.out w1 RM.out S1.out)
      go_wp2_with fail
      refine RG.out.mono ?_
      rintro e w2 ⟨rfl, L', hM, hk2⟩
      have TW := Bx.mk (HW.out.turn2 HK.out HKK.out HX.out HNN.out hM hk2)
      have FINI : Bx (DoesR base w wb (.returned (.bool true)) w2) := ⟨rfl, ⟨_, _, _, _, _, _, (TW.out).1⟩, BW.out.trans ((TW.out).2.below (B := base) BS.out (fun j hj => HW.out.fresh HK.out j hj))⟩
      clear hM hk2 d2b d3b k1 k2 k3
      cases bb
      all_goals
        go_wp2_with fail
        go_ret
        exact FINI.out
    · have f2 : (kd == 2) = false := by simpa using h2
      by_cases h3 : kd = 3
      · subst h3
        obtain ⟨d, es2, hP, hQ⟩ := drop_both base W (s k) (r k) (most k) (es k) (B k) (L k) (HW.out.ca k HK.out) key HKW.out
        have BLT := Bx.mk (fun j (hj : B k j) => (HW.out.ca k HK.out).lt j hj)
        have RLT := Bx.mk (Array.getElem?_eq_some_iff.1 (HW.out.rf k HK.out).hb).1
        have RB := Bx.mk ((HW.out.ca k HK.out).notT (HW.out.rf k HK.out).hb (by decide) (by decide) (by decide))
        have LLT := Bx.mk (fun j (hj : (L k).ownBlock = some j) => ownsRow_lt (HW.out.rf k HK.out).row j hj)
        have LB := Bx.mk (fun j (hj : (L k).ownBlock = some j) => (HW.out.rf k HK.out).notL (HW.out.ca k HK.out) j hj)
        have LR := Bx.mk (fun j (hj : (L k).ownBlock = some j) => (HW.out.rf k HK.out).apart j hj)
        have NO := Bx.mk (ownD_n (Bk := B k) (rk := r k) NB.out (fun e => NR.out e.symm))
        have DP : Bx (∀ u own, Since (ownD (B k) (r k)) W own u → (∀ j, j < W.heap.size → B k j → u.heap[j]? = W.heap[j]?) → Calls Tryz.prog 13 #[.pointer (some ⟨s k, 0, none⟩), .int .i64 key] u fun e w' => e = .returned (.bool d) ∧ CaTI base u w' (s k) (most k) es2 (B k)) := ⟨fun u own hsn hq => hP u ((HW.out.ca k HK.out).kept (T := fun j => ¬ B k j) ⟨hsn.os, hsn.tape, hsn.output, hsn.size, fun j hj hn => hq j hj (Classical.not_not.1 hn)⟩ (fun j hj hn => hn hj)) (Nat.le_trans BS.out hsn.size)⟩
        have DR : Bx (∀ u own, Since (ownD (B k) (r k)) W own u → u.heap[r k]? = W.heap[r k]? → Calls Tryz.prog 14 #[.pointer (some ⟨r k, 0, none⟩), .int .i64 key] u fun e w' => e = .returned (.bool d) ∧ ∃ L', RfM base w' (r k) (most k) es2 L' ∧ Keep (fun j => j = r k) u w' ∧ ∀ j, L'.ownBlock = some j → (L k).ownBlock = some j ∨ u.heap.size ≤ j) := ⟨fun u own hsn hq => hQ u ⟨hq.trans (HW.out.rf k HK.out).hb, (HW.out.rf k HK.out).br, ownsRow_keep' (HW.out.rf k HK.out).row fun j hj => hsn.keep j (LLT.out j hj) (ownD_n (LB.out j hj) (LR.out j hj))⟩ (Nat.le_trans BS.out hsn.size)⟩
        clear hP hQ h1 h2 d2 d3
        go_upto_region 14 with (fail)
        refine wp_region_ownK (n := 144) VDrmk (ownD (B k) (r k)) (VDr base (W.heap.size) (s k) (r k) (most k) N key d es2 (B k)) (by kernel_rfl) (by kernel_rfl) rfl (fun k hk => ownD_n (fun hb => by have := BLT.out k hb; omega) (fun e => by have := RLT.out; omega)) (fun j i hj _ => by cases hj) ?_ ?_ ?_
        · exact fun oi oj v own w own' w' hij _ h r1 => VDr_mono base (W.heap.size) (s k) (r k) (most k) N key d es2 (B k) oi oj v own w own' w' hij h r1
        · intro oi o hi f u own hsame hsn hfr hlate hkeep8 hdep
          have hkeep := hkeep8 _ (.inl rfl)
          match oi, hi with
          | 0, hi =>
            cases (show some _ = some o from hi)
            have e6 : f.tmps.getD 6 undef = .pointer (some ⟨(s k), 0, none⟩) := hsame.slot 6 (fun i o h => invB2_not 6 (by kernel_rfl) h)
            clear hdep hsame hi hlate hfr hkeep
            exact .inl ⟨wanted_none rfl, showsO_move hsn rfl _ rfl e6⟩
          | 1, hi =>
            cases (show some _ = some o from hi)
            have e3 : f.tmps.getD 3 undef = .pointer (some ⟨N, 0, none⟩) := hsame.slot 3 (fun i o h => invB2_not 3 (by kernel_rfl) h)
            clear hdep hsame hi hlate hfr hkeep
            exact .inl ⟨wanted_none rfl, showsO_pure hsn rfl (.pointer (some ⟨N, 2, none⟩)) (by simp only [execOp, Act.eval]; go_simp) rfl⟩
          | 2, hi =>
            cases (show some _ = some o from hi)
            have e92 : (f.tmps.getD 92 undef) = .pointer (some ⟨N, 2, none⟩) := depO (V := (VDr base (W.heap.size) (s k) (r k) (most k) N key d es2 (B k))) hdep 1 92 (by kernel_rfl) (by kernel_rfl)
            clear hdep hsame hi hlate hfr hkeep
            have cc := er_cellAt ((hsn.keep N XL.out NO.out).trans X0.out) 2 _ rfl
            exact .inl ⟨wanted_none rfl, showsO_pure hsn rfl (.int .i64 key) (by simp only [execOp, Act.eval]; go_simp) rfl⟩
          | 3, hi =>
            cases (show some _ = some o from hi)
            have e91 : (f.tmps.getD 91 undef) = .pointer (some ⟨(s k), 0, none⟩) := depO (V := (VDr base (W.heap.size) (s k) (r k) (most k) N key d es2 (B k))) hdep 0 91 (by kernel_rfl) (by kernel_rfl)
            have e93 : (f.tmps.getD 93 undef) = .int .i64 key := depO (V := (VDr base (W.heap.size) (s k) (r k) (most k) N key d es2 (B k))) hdep 2 93 (by kernel_rfl) (by kernel_rfl)
            clear hdep hsame hi hlate hfr hkeep
            exact .inl ⟨wanted_none rfl, showsO_callW rfl 13 #[.pointer (some ⟨(s k), 0, none⟩), .int .i64 key] (by simp only [execOp, Act.eval]; go_simp) ((DP.out u own hsn (fun q hq hn => hkeep8 3 (.inl rfl) q hq (ownD_b hn))).mono fun e w' ⟨he, B', h1, h2, h3⟩ => ⟨_, he, Rel.keep_ _ 3 hsn h2 (fun q hq hb => (hsn.owns q (BLT.out q hb)).trans (ownD_b hb)), rfl, B', h1, fun j hj => (h3 j hj).elim (fun hb => .inl ((hsn.owns j (BLT.out j hb)).trans (ownD_b hb))) (fun hge => .inr (hsn.top j hge)), fun j hj => (h3 j hj).imp id (fun hge => Nat.le_trans hsn.size hge)⟩)⟩
          | 4, hi =>
            cases (show some _ = some o from hi)
            have e7 : f.tmps.getD 7 undef = .pointer (some ⟨(r k), 0, none⟩) := hsame.slot 7 (fun i o h => invB2_not 7 (by kernel_rfl) h)
            clear hdep hsame hi hlate hfr hkeep
            exact .inl ⟨wanted_none rfl, showsO_move hsn rfl _ rfl e7⟩
          | 5, hi =>
            cases (show some _ = some o from hi)
            have e3 : f.tmps.getD 3 undef = .pointer (some ⟨N, 0, none⟩) := hsame.slot 3 (fun i o h => invB2_not 3 (by kernel_rfl) h)
            clear hdep hsame hi hlate hfr hkeep
            exact .inl ⟨wanted_none rfl, showsO_pure hsn rfl (.pointer (some ⟨N, 2, none⟩)) (by simp only [execOp, Act.eval]; go_simp) rfl⟩
          | 6, hi =>
            cases (show some _ = some o from hi)
            have e96 : (f.tmps.getD 96 undef) = .pointer (some ⟨N, 2, none⟩) := depO (V := (VDr base (W.heap.size) (s k) (r k) (most k) N key d es2 (B k))) hdep 5 96 (by kernel_rfl) (by kernel_rfl)
            clear hdep hsame hi hlate hfr hkeep
            have cc := er_cellAt ((hsn.keep N XL.out NO.out).trans X0.out) 2 _ rfl
            exact .inl ⟨wanted_none rfl, showsO_pure hsn rfl (.int .i64 key) (by simp only [execOp, Act.eval]; go_simp) rfl⟩
          | 7, hi =>
            cases (show some _ = some o from hi)
            have e95 : (f.tmps.getD 95 undef) = .pointer (some ⟨(r k), 0, none⟩) := depO (V := (VDr base (W.heap.size) (s k) (r k) (most k) N key d es2 (B k))) hdep 4 95 (by kernel_rfl) (by kernel_rfl)
            have e97 : (f.tmps.getD 97 undef) = .int .i64 key := depO (V := (VDr base (W.heap.size) (s k) (r k) (most k) N key d es2 (B k))) hdep 6 97 (by kernel_rfl) (by kernel_rfl)
            clear hdep hsame hi hlate hfr hkeep
            exact .inl ⟨wanted_none rfl, showsO_callW rfl 14 #[.pointer (some ⟨(r k), 0, none⟩), .int .i64 key] (by simp only [execOp, Act.eval]; go_simp) ((DR.out u own hsn ((hkeep8 7 (.inl rfl) (r k) RLT.out (ownD_r RB.out)))).mono fun e w' ⟨he, L', h1, h2, h3⟩ => ⟨_, he, Rel.keep_ _ 7 hsn h2 (fun q hq hb => by subst hb; exact (hsn.owns _ RLT.out).trans (ownD_r RB.out)), rfl, (hsn.owns (r k) RLT.out).trans (ownD_r RB.out), L', h1, fun j hj => (h3 j hj).elim (fun hl => (hsn.owns j (LLT.out j hl)).trans (ownD_n (LB.out j hl) (LR.out j hl))) (fun hge => hsn.top j hge)⟩)⟩
          | 8, hi =>
            cases (show some _ = some o from hi)
            have e94 : DrS own u (f.tmps.getD 94 undef) d base (W.heap.size) (s k) (most k) es2 (B k) := depO (V := (VDr base (W.heap.size) (s k) (r k) (most k) N key d es2 (B k))) hdep 3 94 (by kernel_rfl) (by kernel_rfl)
            have e98 : DrR own u (f.tmps.getD 98 undef) d base (r k) (most k) es2 := depO (V := (VDr base (W.heap.size) (s k) (r k) (most k) N key d es2 (B k))) hdep 7 98 (by kernel_rfl) (by kernel_rfl)
            clear hdep hsame hi hlate hfr hkeep
            obtain ⟨e94b, -⟩ := e94
            obtain ⟨e98b, -⟩ := e98
            exact .inl ⟨wanted_none rfl, showsO_pure hsn rfl (.bool true) (by simp only [execOp, Act.eval]; go_simp) rfl⟩
          | 9, hi =>
            cases (show some _ = some o from hi)
            have e99 : (f.tmps.getD 99 undef) = .bool true := depO (V := (VDr base (W.heap.size) (s k) (r k) (most k) N key d es2 (B k))) hdep 8 99 (by kernel_rfl) (by kernel_rfl)
            clear hdep hsame hi hlate hfr hkeep
            exact .inl ⟨wanted_none rfl, showsO_assign hsn rfl _ rfl e99⟩
          | n + 10, hi => exact absurd hi (by simp)
        · intro f w2 own hsame hsn hall
          have q91 : f.tmps.getD 91 undef = .pointer (some ⟨(s k), 0, none⟩) := finO (V := (VDr base (W.heap.size) (s k) (r k) (most k) N key d es2 (B k))) hall 0 91 rfl
          have q92 : f.tmps.getD 92 undef = .pointer (some ⟨N, 2, none⟩) := finO (V := (VDr base (W.heap.size) (s k) (r k) (most k) N key d es2 (B k))) hall 1 92 rfl
          have q93 : f.tmps.getD 93 undef = .int .i64 key := finO (V := (VDr base (W.heap.size) (s k) (r k) (most k) N key d es2 (B k))) hall 2 93 rfl
          obtain ⟨q94, SX⟩ := finO (V := (VDr base (W.heap.size) (s k) (r k) (most k) N key d es2 (B k))) hall 3 94 rfl
          have q95 : f.tmps.getD 95 undef = .pointer (some ⟨(r k), 0, none⟩) := finO (V := (VDr base (W.heap.size) (s k) (r k) (most k) N key d es2 (B k))) hall 4 95 rfl
          have q96 : f.tmps.getD 96 undef = .pointer (some ⟨N, 2, none⟩) := finO (V := (VDr base (W.heap.size) (s k) (r k) (most k) N key d es2 (B k))) hall 5 96 rfl
          have q97 : f.tmps.getD 97 undef = .int .i64 key := finO (V := (VDr base (W.heap.size) (s k) (r k) (most k) N key d es2 (B k))) hall 6 97 rfl
          obtain ⟨q98, RX0, RX⟩ := finO (V := (VDr base (W.heap.size) (s k) (r k) (most k) N key d es2 (B k))) hall 7 98 rfl
          have q99 : f.tmps.getD 99 undef = .bool true := finO (V := (VDr base (W.heap.size) (s k) (r k) (most k) N key d es2 (B k))) hall 8 99 rfl
          have q4 : f.tmps.getD 4 undef = .bool true := finO (V := (VDr base (W.heap.size) (s k) (r k) (most k) N key d es2 (B k))) hall 9 4 rfl
          obtain rfl := frame_eq hsame [(91, .pointer (some ⟨(s k), 0, none⟩)), (92, .pointer (some ⟨N, 2, none⟩)), (93, .int .i64 key), (94, .bool d), (95, .pointer (some ⟨(r k), 0, none⟩)), (96, .pointer (some ⟨N, 2, none⟩)), (97, .int .i64 key), (98, .bool d), (99, .bool true), (4, .bool true)] (by kernel_rfl) ⟨q91, q92, q93, q94, q95, q96, q97, q98, q99, q4, trivial⟩
          clear hall hsame q91 q92 q93 q94 q95 q96 q97 q98 q99 q4
          simp only [List.foldl, List.setIfInBounds_toArray, List.set_cons_succ, List.set_cons_zero]
          obtain ⟨B', hX, hB1, hB2⟩ := SX
          obtain ⟨L', hM, hL1⟩ := RX
          have kp : Keep (fun j => B k j ∨ j = r k) W w2 := ⟨hsn.os, hsn.tape, hsn.output, hsn.size, fun j hj hn => hsn.keep j hj (ownD_n (fun e => hn (.inl e)) (fun e => hn (.inr e)))⟩
          have TW := Bx.mk (And.intro (HW.out.turn HK.out kp hX hB2 hM) kp)
          have FINI : Bx (DoesR base w wb (.returned (.bool true)) w2) := ⟨rfl, ⟨_, _, _, _, _, _, (TW.out).1⟩, BW.out.trans ((TW.out).2.below (B := base) BS.out (fun j hj => HW.out.fresh HK.out j hj))⟩
          clear hX hM hB1 hB2 hL1 kp RX0 hsn k1 k2 k3
          go_wp2_with fail
          go_ret
          exact FINI.out
      · have f3 : (kd == 3) = false := by simpa using h3
        by_cases h4 : kd = 4
        · subst h4
          by_cases hr : key < 0 ∨ 1024 < key
          · have C := Bx.mk (cnew_badI A W key hr (HE.out W BW.out))
            have HR := Bx.mk hr
            clear h1 h2 h3 hr d3
            go_wp2_with fail
            refine C.out.mono ?_
            rintro e w1 ⟨rfl, hb⟩
            have b1 := Bx.mk (BW.out.trans (hb.mono BS.out)); have H1 := Bx.mk (HW.out.below hb); have S1 := Bx.mk (Nat.le_trans BS.out hb.size)
            have d2b := er_cellAt ((hb.block N XL.out).trans X0.out) 2 _ rfl
            clear hb d2
            go_wp2_with fail
            refine (rnew13_bad w1 key HR.out).mono ?_
            rintro e w2 ⟨rfl, hb⟩
            have n3 := er_al (Below.refl w2.heap.size w2) (.cells #[.int .i64 2, .int .i64 (-1)] 35)
            have y3 := heap_alloc_new w2 (.cells #[.int .i64 2, .int .i64 (-1)] 35)
            have b2 := b1.out.trans ((hb.trans (n3.mono hb.size)).mono S1.out); have H2 := H1.out.below (hb.trans (n3.mono hb.size)); have S2 := Nat.le_trans S1.out (Nat.le_trans hb.size n3.size)
            clear hb d2b
            go_upto_region 18 with (fail)
            change Code.wp _ _ _ _ (w2.alloc (.cells #[.int .i64 2, .int .i64 (-1)] 35))
            obtain ⟨F, hF⟩ : ∃ F, F = w2.heap.size := ⟨_, rfl⟩
            rw [← hF] at y3 ⊢
            clear n3 hF
            generalize w2.alloc (.cells #[.int .i64 2, .int .i64 (-1)] 35) = W3 at y3 b2 H2 S2 ⊢
            have B3 := Bx.mk b2; have H3 := Bx.mk H2; have S3 := Bx.mk S2
            have g0 := er_cellAt y3 0 _ rfl; have g1 := er_cellAt y3 1 _ rfl
            have SM : Bx (Calls Tryz.prog 15 #[.iface 247 (.pointer (some (A 1))), .agg #[.int .i64 2, .int .i64 (-1)]] W3 fun e w' => e = .returned (.bool true) ∧ Below W3.heap.size W3 w') := ⟨same_err (HE.out W3 B3.out) (ErrV.plain 1 (by decide)) 2 (-1)⟩
            clear y3 b2 H2 S2
            go_wp2_with fail
            refine SM.out.mono ?_
            rintro e w4 ⟨rfl, hb⟩
            have FINI : Bx (DoesR base w wb (.returned (.bool true)) w4) := ⟨rfl, ⟨_, _, _, _, _, _, H3.out.below hb⟩, B3.out.trans (hb.mono S3.out)⟩
            clear hb g0 g1 k1 k2 k3
            go_wp2_with fail
            go_ret
            exact FINI.out
          · obtain ⟨n, rfl⟩ : ∃ n : Nat, key = (n : Int) := ⟨key.toNat, by omega⟩
            have hn : n ≤ 1024 := by omega
            have C := Bx.mk (cnew_anyI W n hn)
            have HN := Bx.mk hn
            clear h1 h2 h3 hr d3 hn
            go_wp2_with fail
            refine C.out.mono ?_
            rintro e w1 ⟨x, rfl, Bn, hX, hNw, hb⟩
            have d2b := er_cellAt ((hb.block N XL.out).trans X0.out) 2 _ rfl
            have K1 := Bx.mk hb; have HX := Bx.mk (hX.mono BS.out); have HNW := Bx.mk hNw
            clear hb d2 hX hNw
            go_wp2_with fail
            refine (rnew13_any w1 n HN.out).mono ?_
            rintro e w2 ⟨y, rfl, hM, hb⟩
            have n3 := er_al (Below.refl w2.heap.size w2) (.cells #[.int .i64 0, .int .i64 0] 35)
            have y3 := heap_alloc_new w2 (.cells #[.int .i64 0, .int .i64 0] 35)
            have b2 := K1.out.trans ((hb.trans (n3.mono hb.size)).mono K1.out.size)
            have x2 := (HX.out.below hb).below n3
            have m2 := hM.below n3
            have yl := hM.br
            clear hb d2b hM
            go_upto_region 18 with (fail)
            change Code.wp _ _ _ _ (w2.alloc (.cells #[.int .i64 0, .int .i64 0] 35))
            obtain ⟨F, hF⟩ : ∃ F, F = w2.heap.size := ⟨_, rfl⟩
            rw [← hF] at y3 ⊢
            clear n3 hF
            generalize w2.alloc (.cells #[.int .i64 0, .int .i64 0] 35) = W3 at y3 b2 x2 m2 ⊢
            have B3 := Bx.mk b2; have X3 := Bx.mk x2; have M3 := Bx.mk m2; have YL := Bx.mk (Nat.le_trans K1.out.size yl)
            have g0 := er_cellAt y3 0 _ rfl; have g1 := er_cellAt y3 1 _ rfl
            have SM : Bx (Calls Tryz.prog 15 #[.nilIface, .agg #[.int .i64 0, .int .i64 0]] W3 fun e w' => e = .returned (.bool true) ∧ Below W3.heap.size W3 w') := ⟨same_err (HE.out W3 (BW.out.trans (b2.mono BS.out))) ErrV.no 0 0⟩
            clear y3 b2 x2 m2 yl
            go_wp2_with fail
            refine SM.out.mono ?_
            rintro e w4 ⟨rfl, hb⟩
            have B4 := Bx.mk (B3.out.trans (hb.mono B3.out.size))
            have M4 : Bx (RfM base w4 y n [] (.slice none 0 0)) := ⟨⟨(M3.out.below hb).hb, Nat.le_trans BS.out YL.out, World.ownsRow_nil _ _ _ _⟩⟩
            have CN := Bx.mk (HW.out.new HK.out B4.out (X3.out.below hb) (fun j hj => HNW.out j hj) M4.out YL.out)
            have H4 := HW.out.below B4.out
            have cS := H4.cS HK.out
            have fS := frozenC H4.hb k
            have cT := H4.cR HK.out
            have fT := frozenC H4.hb (2 + k)
            have cT2 : (w4.setCell ⟨wb, k, none⟩ (.pointer (some ⟨x, 0, none⟩))).cell? ⟨wb, 2 + k, none⟩ = some (.pointer (some ⟨r k, 0, none⟩)) := by rw [← cT]; exact cell_setCell_ne w4 wb k (2 + k) _ (by omega)
            have fT2 : (w4.setCell ⟨wb, k, none⟩ (.pointer (some ⟨x, 0, none⟩))).frozen? ⟨wb, 2 + k, none⟩ = false := by rw [← fT]; exact frozen_setCell_ne w4 wb k (2 + k) _
            have FINI : Bx (DoesR base w wb (.returned (.bool true)) ((w4.setCell ⟨wb, k, none⟩ (.pointer (some ⟨x, 0, none⟩))).setCell ⟨wb, 2 + k, none⟩ (.pointer (some ⟨y, 0, none⟩)))) := ⟨rfl, ⟨_, _, _, _, _, _, CN.out⟩, ((BW.out.trans (B4.out.mono BS.out)).setCell HW.out.bw _).setCell HW.out.bw _⟩
            clear hb g0 g1 H4 cT fT
            go_wp2_with fail
            go_ret
            exact FINI.out
        · have f4 : (kd == 4) = false := by simpa using h4
          by_cases h5 : kd = 5
          · subst h5
            have LK := Bx.mk (looks13_any base W wb s r most es B L HW.out k HK.out)
            clear h1 h2 h3 h4 d2 d3
            go_wp2_with fail
            refine LK.out.mono ?_
            rintro e w1 ⟨rfl, hb⟩
            have FINI : Bx (DoesR base w wb (.returned (.bool true)) w1) := ⟨rfl, ⟨_, _, _, _, _, _, HW.out.below hb⟩, BW.out.trans (hb.mono BS.out)⟩
            clear hb k1 k2 k3
            go_wp2_with fail
            go_ret
            exact FINI.out
          · have f5 : (kd == 5) = false := by simpa using h5
            have FINI : Bx (DoesR base w wb (.returned (.bool true)) W) := ⟨rfl, ⟨_, _, _, _, _, _, HW.out⟩, BW.out⟩
            clear h1 h2 h3 h4 h5 d2 d3 k1 k2 k3
            go_wp2_with fail
            go_ret
            exact FINI.out
end Go.Proofs.YtdepmjgibenejaaGreatDoor.K
