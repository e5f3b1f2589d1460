/- The document's cache of chapter 13 in memory; take. -/
import Derived.Test.YtdepmjgibenejaaGreatDoorCaIF
import Derived.Test.YtdepmjgibenejaaGreatDoorApw
import Derived.Test.YtdepmjgibenejaaGreatDoorPln
import Derived.Test.YtdepmjgibenejaaGreatDoorBkC
import Derived.Maps.AppendAt
namespace Go.Proofs.YtdepmjgibenejaaGreatDoor
set_option maxRecDepth 100000
open Go.RowKit
def itc (es : List (Int × Int)) : List Value := es.flatMap fun x => [.int .i64 x.1, .int .i64 x.2]
theorem itc_len (es : List (Int × Int)) : (itc es).length = es.length * 2 := flat_len _ 2 es (fun _ _ => rfl)
theorem itc_get {es : List (Int × Int)} {t o : Nat} (h : t < es.length) (ho : o < 2) : (itc es)[t * 2 + o]? = [Value.int .i64 es[t].1, .int .i64 es[t].2][o]? := flat_get (fun x : Int × Int => [.int .i64 x.1, .int .i64 x.2]) 2 es t o h (fun _ _ => rfl) ho
theorem itc_append (a b : List (Int × Int)) : itc (a ++ b) = itc a ++ itc b := by simp [itc]
theorem itc_take (es : List (Int × Int)) (t : Nat) (h : t ≤ es.length) : (itc es).take (t * 2) = itc (es.take t) := by
  have h1 : itc es = itc (es.take t) ++ itc (es.drop t) := by rw [← itc_append, List.take_append_drop]
  rw [h1, List.take_left' (by rw [itc_len, List.length_take, Nat.min_eq_left h])]
theorem itc_drop (es : List (Int × Int)) (t : Nat) (h : t ≤ es.length) : (itc es).drop (t * 2) = itc (es.drop t) := by
  have h1 : itc es = itc (es.take t) ++ itc (es.drop t) := by rw [← itc_append, List.take_append_drop]
  rw [h1, List.drop_left' (by rw [itc_len, List.length_take, Nat.min_eq_left h])]
theorem itc_one (es : List (Int × Int)) : ∀ u ∈ itc es, u.oneCell' = true := by
  intro u hu
  obtain ⟨x, _, hx⟩ := List.mem_flatMap.1 hu
  simp at hx
  rcases hx with rfl | rfl <;> rfl
theorem infoRI : (Tryz.prog.info? 84).map (fun i => (i.zero, i.size, i.bytes)) = some (some (.agg #[.int .i64 0, .int .i64 0]), 2, 16) := by kernel_rfl
theorem sizeRI : (Tryz.prog.info? 84).map (·.size) = some 2 := by kernel_rfl
/-- the document's cache in memory -/
structure RfM (base : Nat) (w : World) (r most : Nat) (es : List (Int × Int)) (L : Value) : Prop where
  hb : w.heap[r]? = some (.cells #[.int .i64 (most : Int), L] 51 (0, 0))
  br : base ≤ r
  row : w.ownsRow base 84 2 L es.length (itc es)
theorem RfM.apart {base : Nat} {w : World} {r most : Nat} {es : List (Int × Int)} {L : Value} (h : RfM base w r most es L) (k : Nat) (hk : L.ownBlock = some k) : k ≠ r := rel_blkI h.row h.hb (by decide) k hk
theorem RfM.kept {base : Nat} {w w' : World} {r most : Nat} {es : List (Int × Int)} {L : Value} (h : RfM base w r most es L) {S : Nat → Prop} (k : Keep S w w') (h1 : ¬ S r) (h2 : ∀ j, L.ownBlock = some j → ¬ S j) : RfM base w' r most es L :=
  ⟨(k.block r (Array.getElem?_eq_some_iff.1 h.hb).1 h1).trans h.hb, h.br, ownsRow_keep' h.row fun j hj => k.block j (ownsRow_lt h.row j hj) (h2 j hj)⟩
theorem RfM.below {base : Nat} {w w' : World} {r most : Nat} {es : List (Int × Int)} {L : Value} (h : RfM base w r most es L) (k : Below w.heap.size w w') : RfM base w' r most es L :=
  h.kept (Keep.of_below k (fun _ => False)) (fun h => h) (fun _ _ h => h)
theorem res_ct {fn : Func} {p u : Tmp} {ty : TypeId} {P : Program} (h : fn.results = #[.cell p ty, .tmp u]) (tmps : Array Value) (w : World) (g : Nat) (t : TypeId) (cs : Array Value) (fr : Nat × Nat) (f : Array Field)
    (hp : tmps.getD p undef = .pointer (some ⟨g, 0, none⟩)) (hg : w.heap[g]? = some (.cells cs t fr))
    (hu : P.underlying ty = some (.struct f)) (hi : (P.info? ty).map (·.size) = some cs.size) :
    (results fn tmps).run P w = .ok (.tuple #[.agg cs, tmps.getD u undef]) w := by
  rw [results_cell_tmp h, hp]
  simp [asAddr, run_loadVar_row w g t ty cs fr (.struct f) hg hu rfl hi, Result.andThen]
theorem two_setI {w : World} {n : Nat} {a b : Value} {T : TypeId} {fr : Nat × Nat} (h : w.heap[n]? = some (.cells #[a, b] T fr)) (x y : Value) :
    ((w.setCell ⟨n, 0, none⟩ x).setCell ⟨n, 1, none⟩ y).heap[n]? = some (.cells #[x, y] T fr) := by
  simp [World.setCell, Array.getElem?_modify, h]
theorem appTwo_nil {w w' : World} {base : Nat} {e : TypeId} {size m : Nat} {ys : List Value} {v' : Value} (h : AppTwo w w' base e size (.slice none 0 0) 0 m ys v') : w'.ownsRow base e size v' (0 + m) ys ∧ Below w.heap.size w w' := by
  obtain ⟨h1, ⟨g, c, e1, _⟩ | ⟨hg, _⟩⟩ := h
  · cases e1
  · exact ⟨h1, hg.os, hg.tape, hg.output, hg.size, fun k hk => hg.block k hk (by simp)⟩
theorem appTwo_below {w w' : World} {base : Nat} {e : TypeId} {size n m : Nat} {xs ys : List Value} {v v' : Value} (ho : w.ownsRow base e size v n xs) (h : AppTwo w w' base e size v n m ys v') (hb : base ≤ w.heap.size) : w'.ownsRow base e size v' (n + m) ys ∧ Below base w w' := by
  obtain ⟨h1, ⟨g, c, e1, _, hg⟩ | ⟨hg, _⟩⟩ := h
  · refine ⟨h1, hg.os, hg.tape, hg.output, hg.size, fun k hk => hg.block k (Nat.lt_of_lt_of_le hk hb) (fun e => ?_)⟩
    have := ownsRow_ge ho g (by rw [e1]; rfl)
    have := Option.some.inj e
    omega
  · exact ⟨h1, hg.os, hg.tape, hg.output, hg.size, fun k hk => hg.block k (Nat.lt_of_lt_of_le hk hb) (by simp)⟩
/-- what take leaves where the key is there -/
def TakeP (base : Nat) (w w' : World) (r most : Nat) (es : List (Int × Int)) (t : Nat) : Prop :=
  ∃ L', RfM base w' r most (es.eraseIdx t) L' ∧ Keep (fun k => k = r) w w' ∧ ∀ k, L'.ownBlock = some k → w.heap.size ≤ k
def TakeR (base : Nat) (w : World) (r most : Nat) (es : List (Int × Int)) (k : Int) (e : Ending) (w' : World) : Prop :=
  (k ∉ es.map (·.1) ∧ e = .returned (.tuple #[.agg #[.int .i64 0, .int .i64 0], .bool false]) ∧ Below w.heap.size w w') ∨
  (∃ t, ∃ (ht : t < es.length), es[t].1 = k ∧ e = .returned (.tuple #[.agg #[.int .i64 k, .int .i64 es[t].2], .bool true]) ∧ TakeP base w w' r most es t)
set_option maxHeartbeats 3200000 in
theorem take13_any (base : Nat) (w : World) (r most : Nat) (es : List (Int × Int)) (L : Value) (h : RfM base w r most es L) (hbase : base ≤ w.heap.size) (hlen : es.length ≤ 2000) (k : Int) :
    Calls Tryz.prog 24 #[.pointer (some ⟨r, 0, none⟩), .int .i64 k] w (TakeR base w r most es k) := by
  obtain ⟨a, c, hs, hnc, hcm, -⟩ := own_shapeK h.row
  obtain ⟨n, hn⟩ : ∃ n, n = es.length := ⟨_, rfl⟩
  rw [← hn] at hs hnc
  have kb := er_al (Below.refl w.heap.size w) (.cells #[.int .i64 0, .int .i64 0] 84)
  have h0 := h.below kb
  have x0 := heap_alloc_new w (.cells #[.int .i64 0, .int .i64 0] 84)
  have RN : r < w.heap.size := (Array.getElem?_eq_some_iff.1 h.hb).1
  subst hs
  have HS := Bx.mk h.row; have HN := Bx.mk hn; have RNE := Bx.mk RN; have HBRR := Bx.mk h.br; have HBS := Bx.mk hbase; have HLN := Bx.mk (show n ≤ 2000 by omega); have NC := Bx.mk hnc; have CM := Bx.mk hcm
  obtain ⟨i0, hi, hz0, hz1, hz2⟩ := info_partsB infoRI
  have RI := Bx.mk (And.intro hi (And.intro hz0 (And.intro hz1 hz2)))
  clear h hbase hlen hn hi hz0 hz1 hz2 RN hnc hcm
  go_enter Tryz.func24, Tryz.ntmps24
  go_upto_region 1 with (fail)
  change Code.wp _ _ _ _ (w.alloc (.cells #[.int .i64 0, .int .i64 0] 84))
  generalize w.alloc (.cells #[.int .i64 0, .int .i64 0] 84) = W at kb h0 x0 ⊢
  obtain ⟨N, hN⟩ : ∃ N, N = w.heap.size := ⟨_, rfl⟩
  rw [← hN] at x0 ⊢
  have KB := Bx.mk kb; have M := Bx.mk h0; have X0 := Bx.mk x0; have HNN := Bx.mk hN
  clear kb h0 x0 hN
  go_wp2_with fail
  go_loopw [6] (fun iv wr => ∃ t : Nat, t ≤ n ∧ iv = .int .i64 (t : Int) ∧ (∀ j (hj : j < es.length), j < t → es[j].1 ≠ k) ∧ wr = W) (fun iv _ => n - (intOf iv).toNat)
  case atStart => exact ⟨0, Nat.zero_le _, rfl, (fun j _ hj => absurd hj (Nat.not_lt_zero _)), rfl⟩
  case round =>
    obtain ⟨t, ht, rfl, hno, rfl⟩ := hrel
    have NO := Bx.mk hno
    have c1 := er_cellAt M.out.hb 1 _ rfl
    clear hno
    by_cases hlt : t < n
    · have TE : Bx (t < es.length) := ⟨by rw [← HN.out]; exact hlt⟩
      have TL := Bx.mk hlt
      obtain ⟨g, rfl⟩ : ∃ g, a = some ⟨g, 0, none⟩ := by
        rcases id HS.out.2 with ⟨_, h0⟩ | ⟨g, c', cur, e1, _⟩
        · have := TE.out; omega
        · cases e1; exact ⟨g, rfl⟩
      have hrow := M.out.row
      rw [← HN.out] at hrow
      obtain ⟨cur, hG⟩ := rowG_of hrow
      have p0 := hG.cell (itc_get TE.out (o := 0) (by decide))
      have p1 := hG.cell (itc_get TE.out (o := 1) (by decide))
      rw [Nat.add_zero] at p0
      have GG := Bx.mk hG
      have f1 : (t : Int) < (n : Int) := by omega
      obtain ⟨kk, hkk⟩ : ∃ kk, kk = (es[t]'TE.out).1 := ⟨_, rfl⟩
      obtain ⟨vv, hvv⟩ : ∃ vv, vv = (es[t]'TE.out).2 := ⟨_, rfl⟩
      have hk0 : wr.cell? ⟨g, t * 2, none⟩ = some (.int .i64 kk) := by rw [hkk]; exact p0
      have hk1 : wr.cell? ⟨g, t * 2 + 1, none⟩ = some (.int .i64 vv) := by rw [hvv]; exact p1
      have HKK := Bx.mk hkk; have HVV := Bx.mk hvv
      clear hG hrow hlt hkk hvv ht p0 p1
      by_cases hke : kk = k
      · subst hke
        have h1 := er_al (Below.refl wr.heap.size wr) (.cells #[.int .i64 kk, .int .i64 vv] 84)
        have y0 := heap_alloc_new wr (.cells #[.int .i64 kk, .int .i64 vv] 84)
        go_upto_region 6 with (fail)
        change Code.wp _ _ _ _ (wr.alloc (.cells #[.int .i64 kk, .int .i64 vv] 84))
        generalize wr.alloc (.cells #[.int .i64 kk, .int .i64 vv] 84) = W1 at h1 y0 ⊢
        obtain ⟨b7, hb7⟩ : ∃ b7, b7 = wr.heap.size := ⟨_, rfl⟩
        rw [← hb7] at y0 ⊢
        have NB7 := Bx.mk (show N < b7 by rw [hb7]; exact (Array.getElem?_eq_some_iff.1 X0.out).1)
        have K1 := Bx.mk (KB.out.trans (h1.mono (KB.out.size))); have Y0 := Bx.mk y0; have M1 := Bx.mk (M.out.below h1); have X1 := Bx.mk ((h1.block _ (Array.getElem?_eq_some_iff.1 X0.out).1).trans X0.out)
        have G1 := Bx.mk (GG.out.kept (h1.block g (Array.getElem?_eq_some_iff.1 GG.out.hb).1))
        have RL := Bx.mk (show r < N by have h2 := RNE.out; have h4 := HNN.out; omega)
        clear h1 y0 hb7 hk0 hk1 c1 f1 M GG X0
        have c1 := er_cellAt M1.out.hb 1 _ rfl
        have tn := TL.out; have nc := NC.out
        have f3 : (t : Int) ≤ (c : Int) := by omega
        have NEW1 : Bx (∀ j u, (itc (es.take t))[j]? = some u → W1.cell? ((⟨g, 0, none⟩ : Addr).add j) = some u) := ⟨fun j u hu => by
          rw [← itc_take es t (by have := TE.out; omega), List.getElem?_take] at hu
          split at hu
          · rw [Addr.add_mid, Nat.zero_add]; exact G1.out.cell hu
          · cases hu⟩
        have LT1 : Bx ((itc (es.take t)).length = t * 2) := ⟨by rw [itc_len, List.length_take, Nat.min_eq_left (by have := TE.out; omega)]⟩
        have OT := Bx.mk (itc_one (es.take t))
        have Q1 := Bx.mk (show 0 + t ≤ maxLen by have := HLN.out; unfold maxLen; omega); have Q2 := Bx.mk (show (0 + t) * 16 ≤ 140737488355328 by have := HLN.out; omega)
        clear tn nc
        go_upto_region 8 with (at_builtin; refine wpList_append_apw _ rfl _ _ 49 rfl W1.heap.size 84 i0 (.agg #[.int .i64 0, .int .i64 0]) 2 16 Tryz.underlying49 RI.out.1 RI.out.2.1 RI.out.2.2.1 RI.out.2.2.2 rfl (by decide) (.slice none 0 0) 0 [] rfl (World.ownsRow_nil _ _ _ _) ⟨g, 0, none⟩ t c (itc (es.take t)) rfl LT1.out NEW1.out OT.out Q1.out Q2.out (Nat.le_refl _) ?_; intro v1 w2 happ; have AP1 := Bx.mk happ; clear happ)
        obtain ⟨ho2, hb2⟩ := appTwo_nil AP1.out
        obtain ⟨a1, c1', e1, -, -, -⟩ := own_shapeK ho2
        subst e1
        have O2 := Bx.mk (show w2.ownsRow W1.heap.size 84 2 (.slice a1 (0 + t) c1') (0 + t) (itc (es.take t)) from ho2)
        have K2 := Bx.mk hb2
        have M2 := Bx.mk (M1.out.below hb2); have G2 := Bx.mk (G1.out.kept (hb2.block g (Array.getElem?_eq_some_iff.1 G1.out.hb).1))
        clear ho2 hb2 c1 f3 AP1
        rw [Nat.zero_add] at O2 ⊢
        have c1 := er_cellAt M2.out.hb 1 _ rfl
        have fz := frozenC M2.out.hb 1
        have hw := wrap_succB t (by have := TL.out; have := HLN.out; omega)
        have tn := TL.out; have nc := NC.out
        have NEW2 : Bx (∀ j u, (itc (es.drop (t + 1)))[j]? = some u → w2.cell? ⟨g, (t + 1) * 2 + j, none⟩ = some u) := ⟨fun j u hu => by
          rw [← itc_drop es (t + 1) TE.out, List.getElem?_drop] at hu
          exact G2.out.cell hu⟩
        have LT2 : Bx ((itc (es.drop (t + 1))).length = (n - (t + 1)) * 2) := ⟨by rw [itc_len, List.length_drop, HN.out]⟩
        have OT2 := Bx.mk (itc_one (es.drop (t + 1)))
        have Q3 := Bx.mk (show t + (n - (t + 1)) ≤ maxLen by have := HLN.out; unfold maxLen; omega); have Q4 := Bx.mk (show (t + (n - (t + 1))) * 16 ≤ 140737488355328 by have := HLN.out; omega)
        have f4 : ((t + 1 : Nat) : Int) ≤ (n : Int) := by omega
        have f5 : (n : Int) ≤ (c : Int) := by omega
        clear tn nc
        have R1 := Bx.mk (show r < W1.heap.size from (Array.getElem?_eq_some_iff.1 M1.out.hb).1)
        have B7 := Bx.mk (show b7 < W1.heap.size from (Array.getElem?_eq_some_iff.1 Y0.out).1)
        have NL := Bx.mk (show N < W1.heap.size from (Array.getElem?_eq_some_iff.1 X1.out).1)
        have Y2 := Bx.mk ((K2.out.block b7 B7.out).trans Y0.out)
        have X2 := Bx.mk ((K2.out.block N NL.out).trans X1.out)
        have ZZ : Bx (∀ a2 c2 w3 e, e = .returned (.tuple #[.agg #[.int .i64 kk, .int .i64 vv], .bool true]) → w3.ownsRow W1.heap.size 84 2 (.slice a2 (t + (n - (t + 1))) c2) (t + (n - (t + 1))) (itc (es.take t) ++ itc (es.drop (t + 1))) → Below W1.heap.size w2 w3 → TakeR base w r most es kk e (((w3.setCell ⟨r, 1, none⟩ (.slice a2 (t + (n - (t + 1))) c2)).setCell ⟨N, 0, none⟩ (.int .i64 kk)).setCell ⟨N, 1, none⟩ (.int .i64 vv))) := ⟨fun a2 c2 w3 e he O3 K3 => by
          subst he
          have hb := (K3.block r R1.out).trans M2.out.hb
          have rl := RL.out
          have hnw := HNN.out
          have nl := NL.out
          have nse := HN.out
          have tl := TL.out
          have hne : ∀ j, (Value.slice a2 (t + (n - (t + 1))) c2).ownBlock = some j → W1.heap.size ≤ j := fun j hj => ownsRow_ge O3 j hj
          have o4 := ownsRow_setCell_ne (ownsRow_setCell_ne (ownsRow_setCell_ne O3 ⟨r, 1, none⟩ (.slice a2 (t + (n - (t + 1))) c2) (fun j hj e => by have := hne j hj; have e2 : j = r := e; have := R1.out; omega)) ⟨N, 0, none⟩ (.int .i64 kk) (fun j hj e => by have := hne j hj; have e2 : j = N := e; omega)) ⟨N, 1, none⟩ (.int .i64 vv) (fun j hj e => by have := hne j hj; have e2 : j = N := e; omega)
          have hee : itc (es.take t) ++ itc (es.drop (t + 1)) = itc (es.eraseIdx t) := by rw [← itc_append, ← List.eraseIdx_eq_take_drop_succ]
          have hel : t + (n - (t + 1)) = (es.eraseIdx t).length := by rw [List.length_eraseIdx, if_pos TE.out]; omega
          refine .inr ⟨t, TE.out, HKK.out.symm, by rw [HVV.out], .slice a2 (t + (n - (t + 1))) c2, ⟨?_, HBRR.out, ?_⟩, ?_, fun k hk => by have := hne k hk; omega⟩
          · have hne2 : N ≠ r := by omega
            simp [World.setCell, Array.getElem?_modify, hb, hne2]
          · rw [hee, hel] at o4
            rw [hel]
            exact ownsRow_mono o4 (by have := HBS.out; omega)
          · have k1 : Keep (fun k => k = r ∨ w.heap.size ≤ k) w w3 := (Keep.of_below (K1.out.trans (K2.out.mono (by omega) |>.trans (K3.mono (by omega)))) (fun k => k = r ∨ w.heap.size ≤ k))
            have k2 := ((k1.trans ((Keep.setCell w3 ⟨r, 1, none⟩ (.slice a2 (t + (n - (t + 1))) c2)).mono (S' := fun k => k = r ∨ w.heap.size ≤ k) (fun j _ hj => .inl hj)) (fun _ _ h => h)).trans ((Keep.setCell _ ⟨N, 0, none⟩ (.int .i64 kk)).mono (S' := fun k => k = r ∨ w.heap.size ≤ k) (fun j _ hj => .inr (by have e : j = N := hj; omega))) (fun _ _ h => h)).trans ((Keep.setCell _ ⟨N, 1, none⟩ (.int .i64 vv)).mono (S' := fun k => k = r ∨ w.heap.size ≤ k) (fun j _ hj => .inr (by have e : j = N := hj; omega))) (fun _ _ h => h)
            exact k2.mono (fun j hlt hj => hj.elim id (fun h => by omega))⟩
        by_cases hc : c = t + 1
        · have NEW3 : Bx (∀ j u, (itc (es.drop (t + 1)))[j]? = some u → w2.cell? ((⟨g, 0, none⟩ : Addr).add j) = some u) := ⟨fun j u hu => by
            have h1 := (List.getElem?_eq_some_iff.1 hu).1
            rw [LT2.out] at h1
            have := NC.out
            have h2 : n - (t + 1) = 0 := by omega
            rw [h2] at h1
            omega⟩
          go_upto_region 9 with (at_builtin; refine wpList_append_apw _ rfl _ _ 49 rfl W1.heap.size 84 i0 (.agg #[.int .i64 0, .int .i64 0]) 2 16 Tryz.underlying49 RI.out.1 RI.out.2.1 RI.out.2.2.1 RI.out.2.2.2 rfl (by decide) (.slice a1 t c1') t (itc (es.take t)) rfl O2.out ⟨g, 0, none⟩ (n - (t + 1)) _ (itc (es.drop (t + 1))) rfl LT2.out NEW3.out OT2.out Q3.out Q4.out K2.out.size ?_; intro v2 w3 happ; obtain ⟨ho3, hb3⟩ := appTwo_below O2.out happ K2.out.size; clear happ; obtain ⟨a2, c2, e2, -, -, -⟩ := own_shapeK ho3; subst e2; have O3 := Bx.mk ho3; have K3 := Bx.mk hb3; have hb := (hb3.block r R1.out).trans M2.out.hb; have M3 := Bx.mk hb; have c3 := er_cellAt hb 1 _ rfl; have f6 := frozenC hb 1; have y3 := (hb3.block b7 B7.out).trans Y2.out; have Y3 := Bx.mk y3; have x3 := (hb3.block N NL.out).trans X2.out; have X3 := Bx.mk x3; clear ho3 hb3 hb y3 x3)
          have y4 : (w3.setCell ⟨r, 1, none⟩ (.slice a2 (t + (n - (t + 1))) c2)).heap[b7]? = some (.cells #[.int .i64 kk, .int .i64 vv] 84 (0, 0)) := by rw [← Y3.out]; simp [World.setCell, Array.getElem?_modify, show r ≠ b7 by have := RL.out; have := NB7.out; omega]
          have x4 : (w3.setCell ⟨r, 1, none⟩ (.slice a2 (t + (n - (t + 1))) c2)).heap[N]? = some (.cells #[.int .i64 0, .int .i64 0] 84 (0, 0)) := by rw [← X3.out]; simp [World.setCell, Array.getElem?_modify, show r ≠ N by have := RL.out; omega]
          have X4 := Bx.mk x4
          have d0 := er_cellAt y4 0 _ rfl; have d1 := er_cellAt y4 1 _ rfl
          have d2 := er_cellAt x4 0 _ rfl; have d3 := er_cellAt x4 1 _ rfl
          have d4 := frozenC x4 0; have d5 := frozenC x4 1
          clear c3 f6 c1 fz x4 y4
          go_wp2_with fail
          exact bodyPost_ret (res_ct rfl _ _ N _ _ _ _ rfl (two_setI X4.out _ _) Tryz.underlying84 sizeRI) rfl (ZZ.out a2 c2 w3 _ rfl O3.out K3.out)
        · have NEW3 : Bx (∀ j u, (itc (es.drop (t + 1)))[j]? = some u → w2.cell? ((⟨g, (t + 1) * 2, none⟩ : Addr).add j) = some u) := ⟨fun j u hu => by
            rw [Addr.add_mid]; exact NEW2.out j u hu⟩
          go_upto_region 9 with (at_builtin; refine wpList_append_apw _ rfl _ _ 49 rfl W1.heap.size 84 i0 (.agg #[.int .i64 0, .int .i64 0]) 2 16 Tryz.underlying49 RI.out.1 RI.out.2.1 RI.out.2.2.1 RI.out.2.2.2 rfl (by decide) (.slice a1 t c1') t (itc (es.take t)) rfl O2.out ⟨g, (t + 1) * 2, none⟩ (n - (t + 1)) _ (itc (es.drop (t + 1))) rfl LT2.out NEW3.out OT2.out Q3.out Q4.out K2.out.size ?_; intro v2 w3 happ; obtain ⟨ho3, hb3⟩ := appTwo_below O2.out happ K2.out.size; clear happ; obtain ⟨a2, c2, e2, -, -, -⟩ := own_shapeK ho3; subst e2; have O3 := Bx.mk ho3; have K3 := Bx.mk hb3; have hb := (hb3.block r R1.out).trans M2.out.hb; have M3 := Bx.mk hb; have c3 := er_cellAt hb 1 _ rfl; have f6 := frozenC hb 1; have y3 := (hb3.block b7 B7.out).trans Y2.out; have Y3 := Bx.mk y3; have x3 := (hb3.block N NL.out).trans X2.out; have X3 := Bx.mk x3; clear ho3 hb3 hb y3 x3)
          have y4 : (w3.setCell ⟨r, 1, none⟩ (.slice a2 (t + (n - (t + 1))) c2)).heap[b7]? = some (.cells #[.int .i64 kk, .int .i64 vv] 84 (0, 0)) := by rw [← Y3.out]; simp [World.setCell, Array.getElem?_modify, show r ≠ b7 by have := RL.out; have := NB7.out; omega]
          have x4 : (w3.setCell ⟨r, 1, none⟩ (.slice a2 (t + (n - (t + 1))) c2)).heap[N]? = some (.cells #[.int .i64 0, .int .i64 0] 84 (0, 0)) := by rw [← X3.out]; simp [World.setCell, Array.getElem?_modify, show r ≠ N by have := RL.out; omega]
          have X4 := Bx.mk x4
          have d0 := er_cellAt y4 0 _ rfl; have d1 := er_cellAt y4 1 _ rfl
          have d2 := er_cellAt x4 0 _ rfl; have d3 := er_cellAt x4 1 _ rfl
          have d4 := frozenC x4 0; have d5 := frozenC x4 1
          clear c3 f6 c1 fz x4 y4
          go_wp2_with fail
          exact bodyPost_ret (res_ct rfl _ _ N _ _ _ _ rfl (two_setI X4.out _ _) Tryz.underlying84 sizeRI) rfl (ZZ.out a2 c2 w3 _ rfl O3.out K3.out)
      · have f2 : (kk == k) = false := by simpa using hke
        have NX := Bx.mk (show ∀ j (hj : j < es.length), j < t + 1 → es[j].1 ≠ k from fun j hj h => by
          by_cases e : j = t
          · subst e; rw [← HKK.out]; exact hke
          · exact NO.out j hj (by omega))
        clear hke
        go_wp2_with fail
        go_roundw
        case rel => exact ⟨t + 1, TL.out, (by rw [wrap_succB t (by have := TL.out; have := HLN.out; omega)]), NX.out, trivial⟩
        case measure => rw [wrap_succB t (by have := TL.out; have := HLN.out; omega)]; have := TL.out; simp [intOf]; omega
    · obtain rfl : t = n := by omega
      have f1 : ¬ (t : Int) < (t : Int) := by omega
      clear ht hlt
      obtain ⟨d1, d2⟩ := And.intro (er_cellAt X0.out 0 _ rfl) (er_cellAt X0.out 1 _ rfl)
      have e1 := frozenC X0.out 0
      have e2 := frozenC X0.out 1
      go_wp2_with fail
      refine bodyPost_ret (res_ct rfl _ _ N _ _ _ _ rfl (two_setI X0.out _ _) Tryz.underlying84 sizeRI) rfl (.inl ⟨fun hm => ?_, rfl, (KB.out.setCell (by have := HNN.out; simp; omega) _).setCell (by have := HNN.out; simp; omega) _⟩)
      obtain ⟨x, hx, e⟩ := List.mem_map.1 hm
      obtain ⟨j, hj, rfl⟩ := List.mem_iff_getElem.1 hx
      exact NO.out j hj (by rw [HN.out]; exact hj) e
end Go.Proofs.YtdepmjgibenejaaGreatDoor
