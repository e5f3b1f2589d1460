/- cartularylaw13.CacheKeeps walked. -/
import Derived.Test.YtdepmjgibenejaaDoorCaK
import Derived.Test.YtdepmjgibenejaaDoorMid
namespace Go.Proofs.YtdepmjgibenejaaDoor
set_option maxRecDepth 100000
open Go.RowKit Go.Maps
theorem own_cellK {w : World} {base : Nat} {a : Option Addr} {c : Nat} {es : List (ByteArray × Int)} (h : w.ownsRow base 9 1 (.slice a es.length c) es.length (keycS es)) {s : Nat} (hs : s < es.length) :
    ∃ g, a = some ⟨g, 0, none⟩ ∧ w.cell? ⟨g, s, none⟩ = some (.string es[s].1) := by
  rcases id h.2 with ⟨_, h0⟩ | ⟨g, c', cur, e1, _⟩
  · omega
  · cases e1
    obtain ⟨cur2, hG⟩ := rowG_of h
    exact ⟨g, rfl, hG.cell (by unfold keycS; rw [List.getElem?_map, List.getElem?_eq_getElem hs]; rfl)⟩
theorem keyc_map (es : List (ByteArray × Int)) : keycS es = (es.map (·.1)).map FT := by
  unfold keycS
  rw [List.map_map]
  rfl
theorem own_keysB {w w' : World} {base : Nat} {v : Value} {n : Nat} {xs : List Value} (h : w.ownsRow base 9 1 v n xs) (k : Below w.heap.size w w') : w'.ownsRow base 9 1 v n xs :=
  ownsRow_keep' h fun j hj => k.block j (ownsRow_lt h j hj)
theorem cell_keepP {w w' : World} {T : Nat → Prop} {a : Addr} {v : Value} (k : Keep T w w') (h : w.cell? a = some v) (hn : ¬ T a.block) : w'.cell? a = some v := by
  have := k.block a.block (block_lt_of_cell h) hn
  unfold World.cell? at h ⊢
  rw [this]
  exact h
/-- where a loop that seeks a key stands -/
def atV (i s : Nat) : Int := if i < s then (i : Int) else -1
theorem wrap_succ (t : Nat) (h : t < 9223372036854775807) : wrap64 ((t : Int) + 1) = ((t + 1 : Nat) : Int) := by unfold wrap64; omega
/-- the keys that the law gathers anew, and how many -/
def nxN (i sx : Nat) : Nat := (if i < sx then sx - 1 else sx) + 1
def nxV (k : ByteArray) (es : List (ByteArray × Int)) (i sx : Nat) : List Value := (k :: ((es.map (·.1)).take sx).eraseIdx i).map FT
set_option maxHeartbeats 6400000 in
theorem ckeeps_any (A : Nat → Addr) (w : World) (c : Int) (v : Value) (us : List UseR) (hE : Errs w A) (hU : UsesAt w v us) :
    Calls Tryd.prog 5 #[.int .i64 c, v] w fun e w' => e = .returned (.bool true) ∧ Below w.heap.size w w' := by
  obtain ⟨ua, uc, rfl, hu1, hu2, hu3, hu4⟩ := hU
  obtain ⟨L, hL⟩ : ∃ L, L = us.length := ⟨_, rfl⟩
  have CU : Bx (∀ t, (h : t < us.length) → ∃ B off, ua = some ⟨B, off, none⟩ ∧ B < w.heap.size ∧ w.rangeAt B (off + t * 3) (ucells us[t])) := ⟨fun t h => by
    obtain ⟨B, off, e, hb, hr⟩ := hu4 (fun e => by subst e; cases h)
    exact ⟨B, off, e, hb, hr t h⟩⟩
  have HE := Bx.mk hE; have HL := Bx.mk hL; have KW := Bx.mk hu3; have LM := Bx.mk (show L ≤ maxLen by omega)
  rw [← hL]
  clear hu1 hu2 hu3 hu4 hE hL
  by_cases hc : c < 0 ∨ 1024 < c
  · have cb := cnew_badS A w c hc HE.out
    have HC := Bx.mk hc; have CB := Bx.mk cb
    clear hc cb
    go_enter Tryd.func5, Tryd.ntmps5
    go_wp2_with fail
    refine CB.out.mono ?_
    rintro e W1 ⟨rfl, hb⟩
    have K1 := Bx.mk hb; clear hb
    go_wp2_with fail
    refine (alive13_any W1).mono ?_
    rintro e W2 ⟨rfl, hb⟩
    have K2 := Bx.mk (K1.out.trans (hb.mono K1.out.size)); clear hb K1
    have ci : Calls Tryd.prog 19 #[.iface 127 (.pointer (some (A 1))), .int .i64 2] W2 fun e w' => e = .returned (.bool true) ∧ Below W2.heap.size W2 w' := isE_any (HE.out.below K2.out) (ErrV.plain 1 (by decide)) 2
    have CI := Bx.mk ci; clear ci
    by_cases h0 : c < 0
    · go_wp2_with fail
      refine CI.out.mono ?_
      rintro e W3 ⟨rfl, hb⟩
      go_wp2_with fail
      go_ret
      exact ⟨rfl, K2.out.trans (hb.mono K2.out.size)⟩
    · have h1 : 1024 < c := by have := HC.out; omega
      go_wp2_with fail
      refine CI.out.mono ?_
      rintro e W3 ⟨rfl, hb⟩
      go_wp2_with fail
      go_ret
      exact ⟨rfl, K2.out.trans (hb.mono K2.out.size)⟩
  obtain ⟨n, rfl⟩ : ∃ n : Nat, c = (n : Int) := ⟨c.toNat, by omega⟩
  have hn : n ≤ 1024 := by omega
  have NB := Bx.mk hn
  have cn := cnew_anyS w n hn
  have CN := Bx.mk cn
  clear hc cn hn
  go_enter Tryd.func5, Tryd.ntmps5
  go_wp2_with fail
  refine CN.out.mono ?_
  rintro e W1 ⟨r, rfl, B, hX, hBf, hb⟩
  have K1 := Bx.mk hb; have X1 := Bx.mk hX
  clear hb hX hBf CN
  go_wp2_with fail
  refine (alive13_any W1).mono ?_
  rintro e W2 ⟨rfl, hb⟩
  have K2 := Bx.mk (K1.out.trans (hb.mono K1.out.size)); have X2 := Bx.mk (X1.out.below hb)
  clear hb K1 X1
  have h0 : ¬ (n : Int) < 0 := by omega
  have h1 : ¬ (1024 : Int) < (n : Int) := by have := NB.out; omega
  go_wp2_with fail
  clear h0 h1
  go_loopw [7, 8, 9] (fun kv lv iv wr => ∃ (t la : Nat) (es : List (ByteArray × Int)) (B : Nat → Prop), t ≤ L ∧ iv = .int .i64 (t : Int) ∧ lv = .int .i64 (la : Int) ∧ (la < L ∨ la = 0) ∧ LastOk us la es ∧ CaXS w.heap.size wr r n es B ∧ wr.ownsRow w.heap.size 9 1 kv es.length (keycS es) ∧ (∀ j, kv.ownBlock = some j → ¬ B j) ∧ Below w.heap.size w wr) (fun _ _ iv _ => L - (intOf iv).toNat)
  case atStart => exact ⟨0, 0, [], B, Nat.zero_le _, rfl, rfl, .inr rfl, (fun _ _ _ x hx => by cases hx), X2.out, World.ownsRow_nil _ _ _ _, (fun j hj => by cases hj), K2.out⟩
  case round =>
    obtain ⟨t, la, es, B2, ht, rfl, rfl, hla, hlo, hX, hO, hd, hb⟩ := hrel
    obtain ⟨wo, rfl⟩ : ∃ wo, wo = wr := ⟨_, rfl⟩
    obtain ⟨ka, kc, rfl⟩ := own_shapeC hO
    have LA := Bx.mk hla; have LO := Bx.mk hlo; have CX := Bx.mk hX; have OW := Bx.mk hO; have DJ := Bx.mk hd; have BW := Bx.mk hb
    clear hla hlo hX hO hd hb X2 K2
    by_cases hlt : t < L
    · have TL := Bx.mk hlt
      have TU := Bx.mk (show t < us.length by rw [← HL.out]; exact hlt)
      obtain ⟨u, hu⟩ : ∃ u, u = us[t]'TU.out := ⟨_, rfl⟩
      have HU := Bx.mk hu
      obtain ⟨B0, o0, rfl, hB0, hr⟩ := CU.out t TU.out
      rw [← hu] at hr
      have R0 := Bx.mk hr; have B0L := Bx.mk hB0
      have KU := Bx.mk (show kwS u.k by rw [hu]; exact KW.out _ (List.getElem_mem _))
      clear hr hu hB0 hlt ht
      obtain ⟨hnd, hel, -⟩ := CX.out.plain
      obtain ⟨i, hi, hix⟩ := idx_ex es u.k hnd
      obtain ⟨m, hm⟩ : ∃ m, m = es.length := ⟨_, rfl⟩
      have MB := Bx.mk (show m ≤ 1024 by have := NB.out; omega)
      have HM := Bx.mk hm; have HI := Bx.mk (show i ≤ m by omega); have HX := Bx.mk hix; have EL := Bx.mk (show m ≤ n by omega); have ND := Bx.mk hnd
      rw [← hm]
      clear hnd hel hi hix hm
      have f0 : (t : Int) < (L : Int) := by have := TL.out; omega
      go_wp2_with fail
      clear f0
      go_loopw [10, 11] (fun av jv wq => ∃ s : Nat, s ≤ m ∧ jv = .int .i64 (s : Int) ∧ av = .int .i64 (atV i s) ∧ Below wo.heap.size wo wq) (fun _ jv _ => m - (intOf jv).toNat)
      case atStart => exact ⟨0, Nat.zero_le _, rfl, rfl, Below.refl _ _⟩
      case round =>
        obtain ⟨s, hs, rfl, rfl, hb⟩ := hrel
        have BQ := Bx.mk hb
        clear hb
        by_cases hlt : s < m
        · have hse : s < es.length := by rw [← HM.out]; exact hlt
          obtain ⟨g, rfl, ck⟩ := own_cellK OW.out hse
          have ck2 := (BQ.out.cell (block_lt_of_cell ck)).trans ck
          have r2 : wr.cell? ⟨B0, o0 + t * 3, none⟩ = some (.string u.k) := (rangeB (rangeB R0.out B0L.out BW.out) (Nat.lt_of_lt_of_le B0L.out BW.out.size) BQ.out) 0 _ rfl
          have hx := HX.out s hse
          generalize es[s].1 = y at ck ck2 hx
          obtain ⟨k, hk⟩ : ∃ k, k = u.k := ⟨_, rfl⟩
          have q := fun w => eqlB w y k
          rw [← hk] at r2 hx
          have f1 : (s : Int) < (m : Int) := by omega
          have f0 : (t : Int) < (L : Int) := by have := TL.out; omega
          have f2 : (s : Int) < 9223372036854775806 := by have := MB.out; omega
          have SX := Bx.mk hx; have SM := Bx.mk hlt
          clear hx hk hlt hs hse ck
          go_upto_region 17 with (fail)
          go_quiet (fail)
          generalize hwq : wr.drewN nq = W3
          have B3 := Bx.mk (show Below wo.heap.size wo W3 by rw [← hwq]; exact below_drewN BQ.out nq)
          clear hwq q r2 ck2
          rw [eqlT y k]
          by_cases hxy : y = k
          · rw [decide_eq_true hxy]
            have SI := Bx.mk (SX.out.1 hxy)
            clear hxy SX
            go_wp2_with fail
            go_roundw
            case rel => exact ⟨s + 1, SM.out, by go_num, by rw [SI.out]; unfold atV; rw [if_pos (Nat.lt_succ_self _)], B3.out⟩
            case measure => have := SM.out; simp [intOf]; omega
          · rw [decide_eq_false hxy]
            have SI := Bx.mk (show s ≠ i from fun e => hxy (SX.out.2 e))
            clear hxy SX
            go_wp2_with fail
            go_roundw
            case rel => exact ⟨s + 1, SM.out, by go_num, by have := SI.out; unfold atV; congr 1; (repeat' split) <;> omega, B3.out⟩
            case measure => have := SM.out; simp [intOf]; omega
        · obtain rfl : s = m := by omega
          clear hs hlt
          obtain ⟨av, hav⟩ : ∃ av, av = atV i s := ⟨_, rfl⟩
          rw [← hav]
          have A1 := Bx.mk (show i < s → av = (i : Int) from fun h => by rw [hav]; unfold atV; rw [if_pos h])
          have A2 := Bx.mk (show ¬ i < s → av = -1 from fun h => by rw [hav]; unfold atV; rw [if_neg h])
          have X3 := Bx.mk (CX.out.below BQ.out); have O3 := Bx.mk (own_keysB OW.out BQ.out); have BW3 := Bx.mk (BW.out.trans (BQ.out.mono BW.out.size))
          have r0 := (rangeB (rangeB R0.out B0L.out BW.out) (Nat.lt_of_lt_of_le B0L.out BW.out.size) BQ.out)
          have R3 := Bx.mk r0; have RW := R0; have r2 : wr.cell? ⟨B0, o0 + t * 3 + 2, none⟩ = some (.bool u.p) := r0 2 _ rfl
          have DJ2 := Bx.mk (show ∀ j, (Value.slice ka es.length kc).ownBlock = some j → ¬ B2 j from DJ.out)
          clear hav r0 CX OW BW BQ R0 DJ
          have f0 : (t : Int) < (L : Int) := by have := TL.out; omega
          obtain ⟨k, hk⟩ : ∃ k, k = u.k := ⟨_, rfl⟩; obtain ⟨x, hx⟩ : ∃ x, x = u.v := ⟨_, rfl⟩; obtain ⟨p, hp⟩ : ∃ p, p = u.p := ⟨_, rfl⟩
          rw [← hp] at r2
          have HK := Bx.mk hk; have HXV := Bx.mk hx; have HP := Bx.mk hp
          clear hk hx hp
          go_upto_if 74 with (fail)
          obtain ⟨wi, rfl⟩ : ∃ wi, wi = wr := ⟨_, rfl⟩
          have C0 := Bx.mk (show wi.cell? ⟨B0, o0 + t * 3, none⟩ = some (.string k) by rw [HK.out]; exact R3.out 0 _ rfl)
          have C1 := Bx.mk (show wi.cell? ⟨B0, o0 + t * 3 + 1, none⟩ = some (.int .i64 x) by rw [HXV.out]; exact R3.out 1 _ rfl)
          have KK := Bx.mk (show kwS k by rw [HK.out]; exact KU.out)
          have UT := Bx.mk (show us[t]? = some u by rw [List.getElem?_eq_getElem TU.out, HU.out])
          have WB := Bx.mk (show w.heap.size ≤ wi.heap.size from BW3.out.size)
          clear r2
          go_cut [8] (fun l8 wc => ∃ (la' : Nat) (es' : List (ByteArray × Int)) (B' : Nat → Prop), l8 = .int .i64 (la' : Int) ∧ (la' < L ∨ la' = 0) ∧ LastOk us la' es' ∧ CaXS w.heap.size wc r n es' B' ∧ (∀ j, B' j → B2 j ∨ wi.heap.size ≤ j) ∧ Keep B2 wi wc ∧ ((i = s ∧ (p = false ∨ n = 0)) → es' = es) ∧ (¬ (i = s ∧ (p = false ∨ n = 0)) → StepK i n k es es'))
          case first =>
            as_aux_lemma =>
            have cc0 := C0.out; have cc1 := C1.out
            cases p with
            | false =>
              by_cases hlt : i < s
              · have he : i < es.length := by rw [← HM.out]; exact hlt
                have HE2 := Bx.mk he
                have c := get_hitS w.heap.size wi r n es B2 X3.out k KK.out i HE2.out (by have := (HX.out i HE2.out).2 rfl; rw [HK.out]; exact this)
                have GC := Bx.mk c
                have f1 : 0 ≤ av := by have := A1.out hlt; omega
                have LT := Bx.mk hlt
                clear c he hlt
                go_wp2_with fail
                refine GC.out.mono ?_
                rintro e w1 ⟨rfl, B', x4, k4, d4⟩
                have X4 := Bx.mk x4; have K4 := Bx.mk k4; have D4 := Bx.mk d4
                clear x4 k4 d4 GC cc0 cc1
                go_wp2_with fail
                go_meet
                case rel => exact ⟨la, _, B', rfl, LA.out, LO.out.sub (fun y hy => (mem_split_idx HE2.out y).2 (List.mem_cons.1 hy)), X4.out, D4.out, K4.out, (fun h => absurd h.1 (by have := LT.out; omega)), fun _ => StepK.hit HE2.out (by have := EL.out; have := HM.out; omega) _ (by have := (HX.out i HE2.out).2 rfl; rw [HK.out]; exact this)⟩
              · have hne : k ∉ es.map (·.1) := fun hm => by
                  obtain ⟨y, hy, e⟩ := List.mem_map.1 hm
                  obtain ⟨j, hj, rfl⟩ := List.getElem_of_mem hy
                  have := (HX.out j hj).1 (e.trans HK.out)
                  have := HM.out; omega
                have c := get_missS w.heap.size wi r n es B2 X3.out k KK.out hne
                have GC := Bx.mk c
                have f1 : av < 0 := by have := A2.out hlt; omega
                have f2 : ¬ 0 ≤ av := by omega
                have IS := Bx.mk (show i = s by have := HI.out; omega)
                clear c hne hlt
                go_wp2_with fail
                refine GC.out.mono ?_
                rintro e w1 ⟨rfl, hb⟩
                have HB := Bx.mk hb
                clear hb GC cc0 cc1
                go_wp2_with fail
                go_meet
                case rel => exact ⟨la, es, B2, rfl, LA.out, LO.out, X3.out.below HB.out, (fun j hj => .inl hj), Keep.of_below HB.out B2, (fun _ => rfl), fun h => absurd ⟨IS.out, by simp⟩ h⟩
            | true =>
              by_cases hlt : i < s
              · have he : i < es.length := by rw [← HM.out]; exact hlt
                have HE2 := Bx.mk he; have LT := Bx.mk hlt
                have f1 : 0 ≤ av := by have := A1.out hlt; omega
                have f3 : ¬ av < 0 := by omega
                have hkk : (es[i]'HE2.out).1 = k := by have := (HX.out i HE2.out).2 rfl; rw [HK.out]; exact this
                have HKK := Bx.mk hkk
                have PC : Bx (∀ q : Nat, Calls Tryd.prog 13 #[.pointer (some ⟨r, 0, none⟩), .string k, .int .i64 x] (wi.drewN q) (fun e w' => ∃ v, e = .returned v ∧ v = .tuple #[.string ⟨#[]⟩, .bool false] ∧ CaTS w.heap.size (wi.drewN q) w' r n ((k, x) :: es.eraseIdx i) B2)) := ⟨fun q => (put_hitS w.heap.size (wi.drewN q) r n es B2 WB.out (X3.out.below (below_drewN (Below.refl _ _) q)) k KK.out x i HE2.out HKK.out).mono (fun _ _ h => ⟨_, h.1, rfl, h.2⟩)⟩
                have q1 := fun w => neqB w ⟨#[]⟩ ⟨#[]⟩
                clear he hlt hkk
                go_upto_region 23 with (fail)
                refine wp_region_quiet_call (C := fun w' => ∃ k : Nat, w' = wi.drewN k) 11 (by as_aux_lemma => kernel_rfl) (by as_aux_lemma => kernel_rfl) ⟨1, rfl⟩ ?_
                simp only [List.take_succ_cons, List.take_zero, List.drop_succ_cons, List.drop_zero]
                iterate 11 go_big_quiet_step (fail)
                refine wpQuiet_nil ?_
                rintro _ ⟨q, rfl⟩ _ ho
                cases (show some _ = some _ from ho)
                refine ⟨wanted_none rfl, wp_call_enter 13 #[.pointer (some ⟨r, 0, none⟩), .string k, .int .i64 x] (by simp only [execOp]; go_simp) (PC.out q) ?_⟩
                rintro v w1 ⟨rfl, B', x4, k4, d4⟩
                simp only [Act.put, List.setIfInBounds_toArray, List.set_cons_succ, List.set_cons_zero]
                iterate 5 go_big_quiet_step (fail)
                refine wpQuiet_nil ?_
                rintro _ ⟨q2, rfl⟩
                have b4 : Below w1.heap.size w1 (w1.drewN q2) := below_drewN (Below.refl _ _) q2
                have X4 := Bx.mk (x4.below b4); have K4 := Bx.mk (((Keep.of_below (below_drewN (Below.refl _ _) q) B2).trans k4 (fun _ _ h => h)).trans (Keep.of_below b4 B2) (fun _ _ h => h)); have D4 := Bx.mk (show ∀ j, B' j → B2 j ∨ wi.heap.size ≤ j from d4)
                clear x4 k4 d4 PC cc0 cc1 b4
                generalize w1.drewN q2 = W4 at X4 K4 ⊢
                go_wp2_with fail
                go_meet
                case rel => exact ⟨t, _, B', rfl, .inl TL.out, (by have h := X4.out.plain.1; rw [HK.out, HXV.out] at h ⊢; exact LastOk.put UT.out h), X4.out, D4.out, K4.out, (fun h => absurd h.1 (by have := LT.out; omega)), fun _ => StepK.hit HE2.out (by have := EL.out; have := HM.out; omega) _ rfl⟩
              · have hne : k ∉ es.map (·.1) := fun hm => by
                  obtain ⟨y, hy, e⟩ := List.mem_map.1 hm
                  obtain ⟨j, hj, rfl⟩ := List.getElem_of_mem hy
                  have := (HX.out j hj).1 (e.trans HK.out)
                  have := HM.out; omega
                have f1 : av < 0 := by have := A2.out hlt; omega
                have f2 : ¬ 0 ≤ av := by omega
                have IS := Bx.mk (show i = s by have := HI.out; omega)
                have NE := Bx.mk hne
                clear hne hlt
                by_cases hz : n = 0
                · have hs0 : s = 0 := by have := EL.out; omega
                  have HZ := Bx.mk hz; have HS := Bx.mk hs0
                  have PC : Bx (∀ q : Nat, Calls Tryd.prog 13 #[.pointer (some ⟨r, 0, none⟩), .string k, .int .i64 x] (wi.drewN q) (fun e w' => ∃ v, e = .returned v ∧ v = .tuple #[.string k, .bool true] ∧ Below (wi.drewN q).heap.size (wi.drewN q) w')) := ⟨fun q => by have h := (X3.out.below (below_drewN (Below.refl _ _) q)); rw [HZ.out] at h; exact (put_zeroS w.heap.size (wi.drewN q) r es B2 WB.out h k KK.out x NE.out).mono (fun _ _ h => ⟨_, h.1, rfl, h.2⟩)⟩
                  have q1 := fun w => neqB w k k
                  have g1 : ((n : Int) == 0) = true := by rw [hz]; rfl
                  have g1b : (n == 0) = true := by rw [hz]; rfl
                  have g3 : ¬ 0 < (n : Int) := by omega
                  have g2 : ((s : Int) == (n : Int)) = true := by rw [hz, hs0]; rfl
                  have g2b : (s == n) = true := by rw [hz, hs0]; rfl
                  clear hz hs0
                  go_upto_region 23 with (fail)
                  refine wp_region_quiet_call (C := fun w' => ∃ k : Nat, w' = wi.drewN k) 11 (by as_aux_lemma => kernel_rfl) (by as_aux_lemma => kernel_rfl) ⟨1, rfl⟩ ?_
                  simp only [List.take_succ_cons, List.take_zero, List.drop_succ_cons, List.drop_zero]
                  iterate 11 go_big_quiet_step (fail)
                  refine wpQuiet_nil ?_
                  rintro _ ⟨q, rfl⟩ _ ho
                  cases (show some _ = some _ from ho)
                  refine ⟨wanted_none rfl, wp_call_enter 13 #[.pointer (some ⟨r, 0, none⟩), .string k, .int .i64 x] (by simp only [execOp]; go_simp) (PC.out q) ?_⟩
                  rintro v w1 ⟨rfl, hb⟩
                  simp only [Act.put, List.setIfInBounds_toArray, List.set_cons_succ, List.set_cons_zero]
                  iterate 5 go_big_quiet_step (fail)
                  refine wpQuiet_nil ?_
                  rintro _ ⟨q2, rfl⟩
                  have b4 : Below w1.heap.size w1 (w1.drewN q2) := below_drewN (Below.refl _ _) q2
                  have HB := Bx.mk (show Below wi.heap.size wi (w1.drewN q2) from ((below_drewN (Below.refl _ _) q).trans (hb.mono (Nat.le_refl _))).trans (b4.mono hb.size))
                  clear hb PC cc0 cc1 b4
                  have cc4 := (HB.out.cell (block_lt_of_cell C0.out)).trans C0.out
                  generalize w1.drewN q2 = W4 at HB cc4 ⊢
                  go_wp2_with fail
                  go_meet
                  case rel => exact ⟨t, es, B2, rfl, .inl TL.out, (by have h : es = [] := List.length_eq_zero_iff.1 (by rw [← HM.out, HS.out]); rw [h]; intro _ _ _ y hy; cases hy), X3.out.below HB.out, (fun j hj => .inl hj), Keep.of_below HB.out B2, (fun _ => rfl), fun h => absurd ⟨IS.out, .inr HZ.out⟩ h⟩
                · by_cases hful : s = n
                  · obtain ⟨es0, y, hey⟩ : ∃ es0 y, es = es0 ++ [y] := by
                      rcases List.eq_nil_or_concat es with h | ⟨l, b, h⟩
                      · subst h; have := HM.out; simp at this; omega
                      · exact ⟨l, b, by rw [h]; simp⟩
                    have EY := Bx.mk hey; have HF := Bx.mk hful
                    have hle : es0.length + 1 = s := by rw [HM.out, hey]; simp
                    obtain ⟨s1, hs1⟩ : ∃ s1, s1 + 1 = s := ⟨s - 1, by omega⟩
                    obtain ⟨g, rfl, ck⟩ := own_cellK O3.out (s := s1) (by have := HM.out; omega)
                    have ey1 : (es[s1]'(by have := HM.out; omega)).1 = y.1 := by
                      have h2 : es[s1]? = some y := by rw [hey]; rw [List.getElem?_append_right (by omega)]; simp [show s1 - es0.length = 0 by omega]
                      rw [(List.getElem?_eq_some_iff.1 h2).2]
                    rw [ey1] at ck
                    have LE := Bx.mk hle
                    obtain ⟨y1, hy1⟩ : ∃ y1, y1 = y.1 := ⟨_, rfl⟩
                    rw [← hy1] at ck
                    have Y1 := Bx.mk hy1
                    have PC : Bx (∀ q : Nat, Calls Tryd.prog 13 #[.pointer (some ⟨r, 0, none⟩), .string k, .int .i64 x] (wi.drewN q) (fun e w' => ∃ v, e = .returned v ∧ v = .tuple #[.string y1, .bool true] ∧ CaTS w.heap.size (wi.drewN q) w' r n ((k, x) :: es0) B2)) := ⟨fun q => by have h := (X3.out.below (below_drewN (Below.refl _ _) q)); rw [EY.out] at h; rw [Y1.out]; exact (put_fullS w.heap.size (wi.drewN q) r n es0 y B2 WB.out h k KK.out x (by rw [← EY.out]; exact NE.out) (by rw [← EY.out, ← HM.out]; exact HF.out)).mono (fun _ _ h => ⟨_, h.1, rfl, h.2⟩)⟩
                    have q1 := fun w => neqB w y1 y1
                    have g1 : ((s : Int) == (n : Int)) = true := by rw [hful]; exact beq_self_eq_true _
                    have g1b : (s == n) = true := by rw [hful]; exact beq_self_eq_true _
                    have gi : (s : Int) - 1 = (s1 : Int) := by omega
                    have gj : (s1 : Int) < (s : Int) := by omega
                    have gk : (s : Int) ≤ 1024 := by have := MB.out; omega
                    have g3 : 0 < (n : Int) := by omega
                    have g4 : ¬ (n : Int) = 0 := by omega
                    have g4b : ((n : Int) == 0) = false := beq_eq_false_iff_ne.2 g4
                    have g4c : (n == 0) = false := beq_eq_false_iff_ne.2 (by omega)
                    have CK := Bx.mk ck
                    clear hz hful hle hey ey1 hy1 ck hs1
                    go_upto_region 23 with (fail)
                    refine wp_region_quiet_call (C := fun w' => ∃ k : Nat, w' = wi.drewN k) 11 (by as_aux_lemma => kernel_rfl) (by as_aux_lemma => kernel_rfl) ⟨1, rfl⟩ ?_
                    simp only [List.take_succ_cons, List.take_zero, List.drop_succ_cons, List.drop_zero]
                    iterate 11 go_big_quiet_step (fail)
                    refine wpQuiet_nil ?_
                    rintro _ ⟨q, rfl⟩ _ ho
                    cases (show some _ = some _ from ho)
                    refine ⟨wanted_none rfl, wp_call_enter 13 #[.pointer (some ⟨r, 0, none⟩), .string k, .int .i64 x] (by simp only [execOp]; go_simp) (PC.out q) ?_⟩
                    rintro v w1 ⟨rfl, B', x4, k4, d4⟩
                    simp only [Act.put, List.setIfInBounds_toArray, List.set_cons_succ, List.set_cons_zero]
                    iterate 5 go_big_quiet_step (fail)
                    refine wpQuiet_nil ?_
                    rintro _ ⟨q2, rfl⟩
                    have b4 : Below w1.heap.size w1 (w1.drewN q2) := below_drewN (Below.refl _ _) q2
                    have X4 := Bx.mk (x4.below b4); have K4 := Bx.mk (((Keep.of_below (below_drewN (Below.refl _ _) q) B2).trans k4 (fun _ _ h => h)).trans (Keep.of_below b4 B2) (fun _ _ h => h)); have D4 := Bx.mk (show ∀ j, B' j → B2 j ∨ wi.heap.size ≤ j from d4)
                    clear x4 k4 d4 PC cc0 cc1 b4
                    generalize w1.drewN q2 = W4 at X4 K4 ⊢
                    have ck4 : W4.cell? ⟨g, s1, none⟩ = some (.string y1) := cell_keepP K4.out CK.out (fun h => DJ2.out _ rfl h)
                    go_wp2_with fail
                    go_meet
                    case rel => exact ⟨t, _, B', rfl, .inl TL.out, (by have h := X4.out.plain.1; rw [HK.out, HXV.out] at h ⊢; exact LastOk.put UT.out h), X4.out, D4.out, K4.out, (fun h => by rcases h.2 with h2 | h2 <;> first | (simp at h2; done) | (have := HF.out; have := LE.out; omega)), fun _ => by rw [show i = es.length from IS.out.trans HM.out, EY.out]; exact StepK.full (by rw [← EY.out, ← HM.out]; exact HF.out) _ rfl⟩
                  · have hsn : s < n := by have := EL.out; omega
                    have SN := Bx.mk hsn
                    have SE := Bx.mk (show es.length < n by rw [← HM.out]; exact hsn)
                    have PC : Bx (∀ q : Nat, Calls Tryd.prog 13 #[.pointer (some ⟨r, 0, none⟩), .string k, .int .i64 x] (wi.drewN q) (fun e w' => ∃ v, e = .returned v ∧ v = .tuple #[.string ⟨#[]⟩, .bool false] ∧ CaTS w.heap.size (wi.drewN q) w' r n ((k, x) :: es) B2)) := ⟨fun q => (put_newS w.heap.size (wi.drewN q) r n es B2 WB.out (X3.out.below (below_drewN (Below.refl _ _) q)) k KK.out x NE.out SE.out).mono (fun _ _ h => ⟨_, h.1, rfl, h.2⟩)⟩
                    have q1 := fun w => neqB w ⟨#[]⟩ ⟨#[]⟩
                    have g1 : ¬ (s : Int) = (n : Int) := by omega
                    have g1b : ((s : Int) == (n : Int)) = false := beq_eq_false_iff_ne.2 g1
                    have g1c : (s == n) = false := beq_eq_false_iff_ne.2 (by omega)
                    clear hz hful hsn
                    go_upto_region 23 with (fail)
                    refine wp_region_quiet_call (C := fun w' => ∃ k : Nat, w' = wi.drewN k) 11 (by as_aux_lemma => kernel_rfl) (by as_aux_lemma => kernel_rfl) ⟨1, rfl⟩ ?_
                    simp only [List.take_succ_cons, List.take_zero, List.drop_succ_cons, List.drop_zero]
                    iterate 11 go_big_quiet_step (fail)
                    refine wpQuiet_nil ?_
                    rintro _ ⟨q, rfl⟩ _ ho
                    cases (show some _ = some _ from ho)
                    refine ⟨wanted_none rfl, wp_call_enter 13 #[.pointer (some ⟨r, 0, none⟩), .string k, .int .i64 x] (by simp only [execOp]; go_simp) (PC.out q) ?_⟩
                    rintro v w1 ⟨rfl, B', x4, k4, d4⟩
                    simp only [Act.put, List.setIfInBounds_toArray, List.set_cons_succ, List.set_cons_zero]
                    iterate 5 go_big_quiet_step (fail)
                    refine wpQuiet_nil ?_
                    rintro _ ⟨q2, rfl⟩
                    have b4 : Below w1.heap.size w1 (w1.drewN q2) := below_drewN (Below.refl _ _) q2
                    have X4 := Bx.mk (x4.below b4); have K4 := Bx.mk (((Keep.of_below (below_drewN (Below.refl _ _) q) B2).trans k4 (fun _ _ h => h)).trans (Keep.of_below b4 B2) (fun _ _ h => h)); have D4 := Bx.mk (show ∀ j, B' j → B2 j ∨ wi.heap.size ≤ j from d4)
                    clear x4 k4 d4 PC cc0 cc1 b4
                    generalize w1.drewN q2 = W4 at X4 K4 ⊢
                    go_wp2_with fail
                    go_meet
                    case rel => exact ⟨t, _, B', rfl, .inl TL.out, (by have h := X4.out.plain.1; rw [HK.out, HXV.out] at h ⊢; exact LastOk.put UT.out h), X4.out, D4.out, K4.out, (fun h => by rcases h.2 with h2 | h2 <;> first | (simp at h2; done) | (have := SN.out; omega)), fun _ => by rw [show i = es.length from IS.out.trans HM.out]; exact StepK.new SE.out _ rfl⟩
          case rest =>
          as_aux_lemma =>
          obtain ⟨la', es', B', rfl, hla, hlo, x4, d4, k4, e1, e2⟩ := hcut
          obtain ⟨wd, rfl⟩ : ∃ wd, wd = wc := ⟨_, rfl⟩
          have LA' := Bx.mk hla; have LO' := Bx.mk hlo; have X4 := Bx.mk x4; have E1 := Bx.mk e1; have E2 := Bx.mk e2
          have O4 := Bx.mk (show wd.ownsRow w.heap.size 9 1 (.slice ka es.length kc) es.length (keycS es) from ownsRow_keep' O3.out fun j hj => k4.block j (ownsRow_lt O3.out j hj) (DJ2.out j hj))
          have DJ4 := Bx.mk (show ∀ j, (Value.slice ka es.length kc).ownBlock = some j → ¬ B' j from fun j hj hB => by
            rcases d4 j hB with h | h
            · exact DJ2.out j hj h
            · have := ownsRow_lt O3.out j hj; omega)
          have BW4 := Bx.mk (BW3.out.trans (k4.below (B := w.heap.size) BW3.out.size (fun j hj => X3.out.ge j hj)))
          have R4 := Bx.mk (rangeB RW.out B0L.out BW4.out)
          clear hla hlo x4 d4 k4 e1 e2 X3 O3 DJ2 BW3 R3 C0 C1 LA LO
          have r2 : wd.cell? ⟨B0, o0 + t * 3 + 2, none⟩ = some (.bool p) := by rw [HP.out]; exact R4.out 2 _ rfl
          have f0 : (t : Int) < (L : Int) := by have := TL.out; omega
          by_cases hcont : i = s ∧ (p = false ∨ n = 0)
          · have EE := Bx.mk (E1.out hcont)
            have HC := Bx.mk hcont
            have f1 : av < 0 := by have := A2.out (by omega); omega
            clear hcont
            cases p with
            | false =>
              go_wp2_with fail
              go_roundw
              case rel => exact ⟨t + 1, la', es, B', TL.out, (by rw [wrap_succ t (show t < 9223372036854775807 by have h1 := LM.out; have h2 := TL.out; unfold maxLen at h1; omega)]), rfl, LA'.out, EE.out ▸ LO'.out, EE.out ▸ X4.out, HM.out ▸ O4.out, HM.out ▸ DJ4.out, BW4.out⟩
              case measure => rw [wrap_succ t (show t < 9223372036854775807 by have h1 := LM.out; have h2 := TL.out; unfold maxLen at h1; omega)]; have := TL.out; simp [intOf]; omega
            | true =>
              have hn0 : n = 0 := by rcases HC.out.2 with h | h <;> first | (simp at h; done) | omega
              have g1 : ((n : Int) == 0) = true := by rw [hn0]; rfl
              have g1b : (n == 0) = true := by rw [hn0]; rfl
              clear hn0
              go_wp2_with fail
              go_roundw
              case rel => exact ⟨t + 1, la', es, B', TL.out, (by rw [wrap_succ t (show t < 9223372036854775807 by have h1 := LM.out; have h2 := TL.out; unfold maxLen at h1; omega)]), rfl, LA'.out, EE.out ▸ LO'.out, EE.out ▸ X4.out, HM.out ▸ O4.out, HM.out ▸ DJ4.out, BW4.out⟩
              case measure => rw [wrap_succ t (show t < 9223372036854775807 by have h1 := LM.out; have h2 := TL.out; unfold maxLen at h1; omega)]; have := TL.out; simp [intOf]; omega
          · have HC := Bx.mk hcont
            have STK := Bx.mk (E2.out hcont)
            have NP := Bx.mk (show 0 < n by
              rcases Nat.eq_zero_or_pos n with h | h
              · exfalso; exact hcont ⟨by have := HI.out; have := EL.out; omega, .inr h⟩
              · exact h)
            clear hcont E1 E2
            go_upto_region 29 with (fail)
            go_cut [175] (fun v wx => v = .bool false ∧ wx = wd)
            case first =>
              by_cases hlt : i < s
              · have f1 : 0 ≤ av := by have := A1.out hlt; omega
                have f2 : ¬ av < 0 := by omega
                clear hlt
                go_wp2_with fail
                go_meet
                case rel => exact ⟨rfl, rfl⟩
              · have f1 : av < 0 := by have := A2.out hlt; omega
                have hp : p = true := by
                  cases p with
                  | false => exact absurd ⟨by have := HI.out; omega, .inl rfl⟩ HC.out
                  | true => rfl
                have g4 : ¬ (n : Int) = 0 := by have := NP.out; omega
                have g4b : ((n : Int) == 0) = false := beq_eq_false_iff_ne.2 g4
                have g4c : (n == 0) = false := beq_eq_false_iff_ne.2 (by omega)
                rw [hp] at r2
                clear hlt hp
                go_wp2_with fail
                go_meet
                case rel => exact ⟨rfl, rfl⟩
            case rest =>
            obtain ⟨rfl, hq⟩ := hcut
            rw [hq]
            clear hq r2
            have r1 : wd.cell? ⟨B0, o0 + t * 3, none⟩ = some (.string k) := by rw [HK.out]; exact R4.out 0 _ rfl
            go_wp2_with fail
            as_aux_lemma =>
            have hb7 : Below wd.heap.size wd (wd.alloc (.cells #[.string k] 9)) := er_al (Below.refl _ _) _
            have hg7 := heap_alloc_new wd (.cells #[.string k] 9)
            have ho7 : (wd.alloc (.cells #[.string k] 9)).ownsRow wd.heap.size 9 1 (.slice (some ⟨wd.heap.size, 0, none⟩) 1 1) 1 [.string k] := (RowG.own (cur := #[.string k]) ⟨hg7, Nat.le_refl _, Nat.le_refl _, by unfold maxLen; omega, rfl, rfl, rfl⟩)
            generalize wd.alloc (.cells #[.string k] 9) = w7 at hb7 hg7 ho7 ⊢
            have O7 := Bx.mk ho7; have B7 := Bx.mk hb7
            clear hb7 hg7 ho7 r1 f0
            go_loopw [16, 17] (fun nv jv wx => ∃ sx q : Nat, sx ≤ s ∧ jv = .int .i64 (sx : Int) ∧ q = nxN i sx ∧ q ≤ n ∧ wx.ownsRow wd.heap.size 9 1 nv q (nxV k es i sx) ∧ Below wd.heap.size wd wx) (fun _ jv _ => s - (intOf jv).toNat)
            case atStart => exact ⟨0, 1, Nat.zero_le _, rfl, by unfold nxN; simp, NP.out, O7.out, B7.out⟩
            case round =>
              clear O7 B7
              obtain ⟨sx, q, hs, rfl, hq, hqn, hO, hb⟩ := hrel
              obtain ⟨na, nc, rfl⟩ := own_shapeC hO
              have SX := Bx.mk hs; have HQ := Bx.mk hq; have QN := Bx.mk hqn; have OX := Bx.mk hO; have BX := Bx.mk hb
              clear hs hq hqn hO hb
              by_cases hlt : sx < s
              · have f1 : (sx : Int) < (s : Int) := by omega
                have SL := Bx.mk hlt
                by_cases hqq : q < n
                · have f2 : (q : Int) < (n : Int) := by omega
                  have QL := Bx.mk hqq
                  clear hlt hqq
                  by_cases hsi : sx = i
                  · have hav := A1.out (by have := SL.out; omega)
                    have f3 : ((sx : Int) == av) = true := by rw [hav, hsi]; exact beq_self_eq_true _
                    have SI := Bx.mk hsi
                    clear hav hsi
                    go_wp2_with fail
                    go_roundw
                    case rel => exact ⟨sx + 1, q, SL.out, (by rw [wrap_succ sx (show sx < 9223372036854775807 by have := MB.out; have := SL.out; omega)]), (by have h1 := HQ.out; have h2 := SI.out; unfold nxN at h1 ⊢; (repeat' split at *) <;> omega), QN.out, (by have h := OX.out; unfold nxV at h ⊢; rw [SI.out] at h ⊢; rw [next_skip]; exact h), BX.out⟩
                    case measure => rw [wrap_succ sx (show sx < 9223372036854775807 by have := MB.out; have := SL.out; omega)]; have := SL.out; simp [intOf]; omega
                  · have f3 : ¬ (sx : Int) = av := by
                      rcases Nat.lt_or_ge i s with h | h
                      · rw [A1.out h]; omega
                      · rw [A2.out (by omega)]; omega
                    have f3b : ((sx : Int) == av) = false := beq_eq_false_iff_ne.2 f3
                    have SI := Bx.mk hsi
                    have SE := Bx.mk (show sx < es.length by rw [← HM.out]; exact SL.out)
                    obtain ⟨g, rfl, ck⟩ := own_cellK (own_keysB O4.out BX.out) SE.out
                    obtain ⟨y, hy⟩ : ∃ y, y = (es[sx]'SE.out).1 := ⟨_, rfl⟩
                    rw [← hy] at ck
                    have HY := Bx.mk hy
                    have NX : Bx (nxV k es i (sx + 1) = nxV k es i sx ++ [.string y]) := ⟨by
                      unfold nxV
                      rw [next_succ _ (by simpa using SE.out) SI.out, ← List.cons_append, List.map_append]
                      simp only [List.getElem_map, ← HY.out]; rfl⟩
                    obtain ⟨i0, ri1, ri2, ri3, ri4⟩ := info_parts infoKS
                    have RI := Bx.mk (And.intro ri1 (And.intro ri2 (And.intro ri3 ri4)))
                    clear hsi hy ri1 ri2 ri3 ri4
                    go_wp2_with (at_builtin; refine wpList_append_own_at _ rfl _ _ 62 rfl wd.heap.size 9 i0 (.string ⟨#[]⟩) 1 16 Tryd.underlying62 RI.out.1 RI.out.2.1 RI.out.2.2.1 RI.out.2.2.2 rfl (by decide) (.slice na q nc) q (nxV k es i sx) rfl (OX.out.alloc _) ⟨wr.heap.size, 0, none⟩ 1 1 [.string y] rfl rfl (cell_one_new _ _ _) (fun u hu => by rw [List.mem_singleton.1 hu]; rfl) (by have := QL.out; have := NB.out; unfold maxLen; omega) (by have := QL.out; have := NB.out; omega) (by have := BX.out.size; simp; omega) ?_; intro lv2 w2 hown hgrow _ hloc; obtain ⟨a4, c4, rfl⟩ := own_shapeC hown; have kk := (Keep.of_below (er_al (Below.refl wr.heap.size wr) (.cells #[.string y] 9)) (fun j => (Value.slice na q nc).ownBlock = some j)).trans (Keep.of_grown hgrow) (fun _ _ h => h); have BX2 := Bx.mk (BX.out.trans (kk.below (B := wd.heap.size) BX.out.size (fun j hj => ownsRow_fresh OX.out j hj))); have HO2 := Bx.mk hown; clear hown hgrow hloc kk ck)
                    go_roundw
                    case rel => exact ⟨sx + 1, q + 1, SL.out, (by rw [wrap_succ sx (show sx < 9223372036854775807 by have := MB.out; have := SL.out; omega)]), (by have h1 := HQ.out; have h2 := SI.out; unfold nxN at h1 ⊢; (repeat' split at *) <;> omega), QL.out, (by rw [NX.out]; exact HO2.out), BX2.out⟩
                    case measure => rw [wrap_succ sx (show sx < 9223372036854775807 by have := MB.out; have := SL.out; omega)]; have := SL.out; simp [intOf]; omega
                · have f2 : ¬ (q : Int) < (n : Int) := by omega
                  have QE := Bx.mk (show q = n by have := QN.out; omega)
                  have hml : (es.map (·.1)).length = s := by rw [List.length_map, HM.out]
                  have hnq : (if i < sx then sx - 1 else sx) + 1 = q := HQ.out.symm
                  have hkeys : es'.map (·.1) = k :: ((es.map (·.1)).take sx).eraseIdx i := by rw [STK.out, next_end (es.map (·.1)) (i := i) (t := sx) (m := n - 1) (by have := SX.out; omega) (by have := QN.out; omega) (.inr (by have := QE.out; omega))]
                  have hlen : es'.length = q := by
                    have h := congrArg List.length hkeys
                    rw [List.length_map, List.length_cons, next_len _ (by have := SX.out; omega)] at h
                    omega
                  have HKEYS := Bx.mk hkeys; have HLEN := Bx.mk hlen
                  have cl : Calls Tryd.prog 16 #[.pointer (some ⟨r, 0, none⟩)] wr fun e w' => e = .returned (.int .i64 (q : Int)) ∧ w' = wr := by
                    have h := len_anyS w.heap.size wr r n es' B' (X4.out.below BX.out)
                    rw [hlen] at h
                    exact h
                  have CL := Bx.mk cl
                  have f3 : ¬ (n : Int) < (q : Int) := by have := QN.out; omega
                  clear cl hkeys hlen hml hnq hlt hqq
                  go_wp2_with fail
                  refine CL.out.mono ?_
                  rintro e u1 ⟨rfl, hu1⟩
                  rw [hu1]; clear hu1
                  go_wp2_with fail
                  refine CL.out.mono ?_
                  rintro e u2 ⟨rfl, hu2⟩
                  rw [hu2]; clear hu2
                  go_wp2_with fail
                  go_roundw
                  case rel => exact ⟨t + 1, la', es', B', TL.out, (by rw [wrap_succ t (show t < 9223372036854775807 by have h1 := LM.out; have h2 := TL.out; unfold maxLen at h1; omega)]), rfl, LA'.out, LO'.out, X4.out.below BX.out, (by rw [HLEN.out, keyc_map, HKEYS.out]; exact ownsRow_mono OX.out BW4.out.size), (fun j hj hB => by have h1 := ownsRow_fresh OX.out j hj; have h2 := X4.out.lt j hB; omega), BW4.out.trans (BX.out.mono BW4.out.size)⟩
                  case measure => rw [wrap_succ t (show t < 9223372036854775807 by have h1 := LM.out; have h2 := TL.out; unfold maxLen at h1; omega)]; have := TL.out; simp [intOf]; omega
              · have f1 : ¬ (sx : Int) < (s : Int) := by omega
                have SQ := Bx.mk (show sx = s by have := SX.out; omega)
                have hml : (es.map (·.1)).length = s := by rw [List.length_map, HM.out]
                have hnq : (if i < sx then sx - 1 else sx) + 1 = q := HQ.out.symm
                have hkeys : es'.map (·.1) = k :: ((es.map (·.1)).take sx).eraseIdx i := by rw [STK.out, next_end (es.map (·.1)) (i := i) (t := sx) (m := n - 1) (by have := SX.out; omega) (by have := QN.out; omega) (.inl (by have := SQ.out; omega))]
                have hlen : es'.length = q := by
                  have h := congrArg List.length hkeys
                  rw [List.length_map, List.length_cons, next_len _ (by have := SX.out; omega)] at h
                  omega
                have HKEYS := Bx.mk hkeys; have HLEN := Bx.mk hlen
                have cl : Calls Tryd.prog 16 #[.pointer (some ⟨r, 0, none⟩)] wr fun e w' => e = .returned (.int .i64 (q : Int)) ∧ w' = wr := by
                  have h := len_anyS w.heap.size wr r n es' B' (X4.out.below BX.out)
                  rw [hlen] at h
                  exact h
                have CL := Bx.mk cl
                have f3 : ¬ (n : Int) < (q : Int) := by have := QN.out; omega
                clear cl hkeys hlen hml hnq hlt
                go_wp2_with fail
                refine CL.out.mono ?_
                rintro e u1 ⟨rfl, hu1⟩
                rw [hu1]; clear hu1
                go_wp2_with fail
                refine CL.out.mono ?_
                rintro e u2 ⟨rfl, hu2⟩
                rw [hu2]; clear hu2
                go_wp2_with fail
                go_roundw
                case rel => exact ⟨t + 1, la', es', B', TL.out, (by rw [wrap_succ t (show t < 9223372036854775807 by have h1 := LM.out; have h2 := TL.out; unfold maxLen at h1; omega)]), rfl, LA'.out, LO'.out, X4.out.below BX.out, (by rw [HLEN.out, keyc_map, HKEYS.out]; exact ownsRow_mono OX.out BW4.out.size), (fun j hj hB => by have h1 := ownsRow_fresh OX.out j hj; have h2 := X4.out.lt j hB; omega), BW4.out.trans (BX.out.mono BW4.out.size)⟩
                case measure => rw [wrap_succ t (show t < 9223372036854775807 by have h1 := LM.out; have h2 := TL.out; unfold maxLen at h1; omega)]; have := TL.out; simp [intOf]; omega
      done
    · as_aux_lemma =>
      obtain rfl : t = L := by omega
      clear ht hlt
      obtain ⟨m, hm⟩ : ∃ m, m = es.length := ⟨_, rfl⟩
      have MB := Bx.mk (show m ≤ 1024 by have h := CX.out.plain; omega)
      have HM := Bx.mk hm
      rw [← hm]
      clear hm
      by_cases hL : 0 < t
      · have f1 : 0 < (t : Int) := by omega
        by_cases hn : 0 < n
        · have f2 : 0 < (n : Int) := by omega
          have hlt : la < t := by rcases LA.out with h | h <;> omega
          have TU := Bx.mk (show la < us.length by rw [← HL.out]; exact hlt)
          have LT := Bx.mk hlt
          obtain ⟨u, hu⟩ : ∃ u, u = us[la]'TU.out := ⟨_, rfl⟩
          have HU := Bx.mk hu
          obtain ⟨B0, o0, rfl, hB0, hr⟩ := CU.out la TU.out
          rw [← hu] at hr
          have R0 := Bx.mk hr; have B0L := Bx.mk hB0
          clear hr hB0 hL hn
          obtain ⟨p, hp⟩ : ∃ p, p = u.p := ⟨_, rfl⟩
          have HP := Bx.mk hp
          have r2 : wo.cell? ⟨B0, o0 + la * 3 + 2, none⟩ = some (.bool p) := by rw [hp]; exact (rangeB R0.out B0L.out BW.out) 2 _ rfl
          have f0 : (la : Int) < (t : Int) := by omega
          clear hu hp hlt
          cases p with
          | false =>
            go_wp2_with fail
            refine (keys_anyS w.heap.size _ r n es B2 (CX.out.below (Below.refl wo.heap.size wo))).mono ?_
            rintro e W5 ⟨v5, rfl, hown, hb⟩
            obtain ⟨a5, c5, rfl⟩ := own_shapeC hown
            have r1 := ro_own (es.map (·.1)) (by simp) (keyc_map es) hown
            have r2 := ro_own (es.map (·.1)) (by simp) (keyc_map es) (own_keysB (own_keysB OW.out (Below.refl wo.heap.size wo)) hb)
            have cs := sameT_any W5 a5 _ c5 _ ka _ kc _ r1 r2
            rw [← HM.out] at cs
            have CS := Bx.mk cs; have B5 := Bx.mk (BW.out.trans (((Below.refl wo.heap.size wo).trans (hb.mono ((Below.refl wo.heap.size wo)).size)).mono BW.out.size))
            rw [← HM.out]
            clear r1 r2 cs hown hb
            go_wp2_with fail
            refine CS.out.mono ?_
            rintro e W6 ⟨rfl, hb⟩
            go_wp2_with fail
            go_ret
            exact ⟨by simp, B5.out.trans (hb.mono B5.out.size)⟩
          | true =>
            go_wp2_with fail
            clear r2 f1 f2 f0
            go_loopw [18] (fun jv wq => ∃ s : Nat, s ≤ m ∧ jv = .int .i64 (s : Int) ∧ Below wo.heap.size wo wq) (fun jv _ => m - (intOf jv).toNat)
            case atStart => exact ⟨0, Nat.zero_le _, rfl, Below.refl _ _⟩
            case round =>
              obtain ⟨s, hs, rfl, hb⟩ := hrel
              have BQ := Bx.mk hb
              clear hb
              by_cases hlt : s < m
              · have SE := Bx.mk (show s < es.length by rw [← HM.out]; exact hlt)
                obtain ⟨g, rfl, ck⟩ := own_cellK OW.out SE.out
                have ck2 := (BQ.out.cell (block_lt_of_cell ck)).trans ck
                have r2 : wr.cell? ⟨B0, o0 + la * 3, none⟩ = some (.string u.k) := (rangeB (rangeB R0.out B0L.out BW.out) (Nat.lt_of_lt_of_le B0L.out BW.out.size) BQ.out) 0 _ rfl
                obtain ⟨y, hy⟩ : ∃ y, y = (es[s]'SE.out).1 := ⟨_, rfl⟩
                obtain ⟨k, hk⟩ : ∃ k, k = u.k := ⟨_, rfl⟩
                rw [← hy] at ck2
                rw [← hk] at r2
                have q := fun w => eqlB w y k
                have HY := Bx.mk hy; have HK := Bx.mk hk
                have f1 : (s : Int) < (m : Int) := by omega
                have f0 : (la : Int) < (t : Int) := by have := LT.out; omega
                have SM := Bx.mk hlt
                clear hy hk hlt hs ck
                go_upto_region 43 with (fail)
                go_quiet (fail)
                generalize hwq : wr.drewN nq = W3
                have B3 := Bx.mk (show Below wo.heap.size wo W3 by rw [← hwq]; exact below_drewN BQ.out nq)
                have CK3 := Bx.mk (show W3.cell? ⟨g, s, none⟩ = some (.string y) by rw [← hwq]; exact ck2)
                clear hwq q r2 ck2
                rw [eqlT y k]
                by_cases hxy : y = k
                · rw [decide_eq_true hxy]
                  obtain ⟨x, hx⟩ : ∃ x, x = u.v := ⟨_, rfl⟩
                  have hv : (es[s]'SE.out).2 = x := by rw [hx]; exact LO.out u (by rw [List.getElem?_eq_getElem TU.out, HU.out]) HP.out.symm _ (List.getElem_mem SE.out) (by rw [← HY.out, hxy, HK.out])
                  have hky : kwS y := by rw [hxy, HK.out, HU.out]; exact KW.out _ (List.getElem_mem _)
                  have cg := get_hitS w.heap.size W3 r n es B2 (CX.out.below B3.out) y hky s SE.out HY.out.symm
                  rw [hv] at cg
                  have CG := Bx.mk cg
                  have HXV := Bx.mk hx
                  have ck3 := CK3.out
                  clear hxy hv hky cg hx
                  go_wp2_with fail
                  refine CG.out.mono ?_
                  rintro e W5 ⟨rfl, B5, x5, k5, d5⟩
                  have B6 := Bx.mk ((BW.out.trans (B3.out.mono BW.out.size)).trans (k5.below (B := w.heap.size) (Nat.le_trans BW.out.size B3.out.size) (fun j hj => CX.out.ge j hj)))
                  have r3 : W5.cell? ⟨B0, o0 + la * 3 + 1, none⟩ = some (.int .i64 x) := by rw [HXV.out]; exact (rangeB R0.out B0L.out B6.out) 1 _ rfl
                  clear x5 k5 d5 CG ck3
                  go_wp2_with fail
                  go_ret
                  exact ⟨by simp, B6.out⟩
                · rw [decide_eq_false hxy]
                  clear hxy
                  go_wp2_with fail
                  go_roundw
                  case rel => exact ⟨s + 1, SM.out, (by rw [wrap_succ s (by have := MB.out; have := SM.out; omega)]), B3.out⟩
                  case measure => rw [wrap_succ s (by have := MB.out; have := SM.out; omega)]; have := SM.out; simp [intOf]; omega
              · have f1 : ¬ (s : Int) < (m : Int) := by omega
                clear hlt hs
                go_wp2_with fail
                refine (keys_anyS w.heap.size _ r n es B2 (CX.out.below BQ.out)).mono ?_
                rintro e W5 ⟨v5, rfl, hown, hb⟩
                obtain ⟨a5, c5, rfl⟩ := own_shapeC hown
                have r1 := ro_own (es.map (·.1)) (by simp) (keyc_map es) hown
                have r2 := ro_own (es.map (·.1)) (by simp) (keyc_map es) (own_keysB (own_keysB OW.out BQ.out) hb)
                have cs := sameT_any W5 a5 _ c5 _ ka _ kc _ r1 r2
                rw [← HM.out] at cs
                have CS := Bx.mk cs; have B5 := Bx.mk (BW.out.trans ((BQ.out.trans (hb.mono (BQ.out).size)).mono BW.out.size))
                rw [← HM.out]
                clear r1 r2 cs hown hb
                go_wp2_with fail
                refine CS.out.mono ?_
                rintro e W6 ⟨rfl, hb⟩
                go_wp2_with fail
                go_ret
                exact ⟨by simp, B5.out.trans (hb.mono B5.out.size)⟩
        · have f2 : ¬ 0 < (n : Int) := by omega
          go_wp2_with fail
          refine (keys_anyS w.heap.size _ r n es B2 (CX.out.below (Below.refl wo.heap.size wo))).mono ?_
          rintro e W5 ⟨v5, rfl, hown, hb⟩
          obtain ⟨a5, c5, rfl⟩ := own_shapeC hown
          have r1 := ro_own (es.map (·.1)) (by simp) (keyc_map es) hown
          have r2 := ro_own (es.map (·.1)) (by simp) (keyc_map es) (own_keysB (own_keysB OW.out (Below.refl wo.heap.size wo)) hb)
          have cs := sameT_any W5 a5 _ c5 _ ka _ kc _ r1 r2
          rw [← HM.out] at cs
          have CS := Bx.mk cs; have B5 := Bx.mk (BW.out.trans (((Below.refl wo.heap.size wo).trans (hb.mono ((Below.refl wo.heap.size wo)).size)).mono BW.out.size))
          rw [← HM.out]
          clear r1 r2 cs hown hb
          go_wp2_with fail
          refine CS.out.mono ?_
          rintro e W6 ⟨rfl, hb⟩
          go_wp2_with fail
          go_ret
          exact ⟨by simp, B5.out.trans (hb.mono B5.out.size)⟩
      · have f1 : ¬ 0 < (t : Int) := by omega
        go_wp2_with fail
        refine (keys_anyS w.heap.size _ r n es B2 (CX.out.below (Below.refl wo.heap.size wo))).mono ?_
        rintro e W5 ⟨v5, rfl, hown, hb⟩
        obtain ⟨a5, c5, rfl⟩ := own_shapeC hown
        have r1 := ro_own (es.map (·.1)) (by simp) (keyc_map es) hown
        have r2 := ro_own (es.map (·.1)) (by simp) (keyc_map es) (own_keysB (own_keysB OW.out (Below.refl wo.heap.size wo)) hb)
        have cs := sameT_any W5 a5 _ c5 _ ka _ kc _ r1 r2
        rw [← HM.out] at cs
        have CS := Bx.mk cs; have B5 := Bx.mk (BW.out.trans (((Below.refl wo.heap.size wo).trans (hb.mono ((Below.refl wo.heap.size wo)).size)).mono BW.out.size))
        rw [← HM.out]
        clear r1 r2 cs hown hb
        go_wp2_with fail
        refine CS.out.mono ?_
        rintro e W6 ⟨rfl, hb⟩
        go_wp2_with fail
        go_ret
        exact ⟨by simp, B5.out.trans (hb.mono B5.out.size)⟩
end Go.Proofs.YtdepmjgibenejaaDoor
