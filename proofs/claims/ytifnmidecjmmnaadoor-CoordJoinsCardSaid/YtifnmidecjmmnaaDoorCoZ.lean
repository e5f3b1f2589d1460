/- CoordJoins walked. -/
import Derived.Test.YtifnmidecjmmnaaDoorCoZa
namespace Go.Proofs.YtifnmidecjmmnaaDoor
open Go.RowKit
set_option maxHeartbeats 6400000 in
set_option maxRecDepth 100000 in
theorem joins_any (W : World) (a0 b0 c0 : Nat) (hs : Seed W W) :
    Calls Tryd.prog 4 #[.int .u64 (a0 : Int), .int .u64 (b0 : Int), .int .u64 (c0 : Int)] W fun e w' => e = .returned (.bool true) ∧ Below W.heap.size W w' := by
  have SS := Bx.mk hs; clear hs
  go_enter Tryd.func4, Tryd.ntmps4
  go_upto_if 23 with (fail)
  go_cut [0, 1] (fun x y wc => ∃ p q : Nat, x = .int .u64 (p : Int) ∧ y = .int .u64 (q : Int) ∧ p ≤ q ∧ wc = W)
  case first =>
    by_cases h : b0 < a0
    · go_wp2_with fail
      go_meet
      case rel => exact ⟨b0, a0, rfl, rfl, by omega, rfl⟩
    · go_wp2_with fail
      go_meet
      case rel => exact ⟨a0, b0, rfl, rfl, by omega, rfl⟩
  case rest =>
  obtain ⟨p, q, rfl, rfl, hpq, rfl⟩ := hcut
  go_upto_if 28 with (fail)
  go_cut [1, 2] (fun x y w' => ∃ q' r' : Nat, x = .int .u64 (q' : Int) ∧ y = .int .u64 (r' : Int) ∧ q' ≤ r' ∧ p ≤ r' ∧ w' = wc)
  case first =>
    by_cases h : c0 < q
    · go_wp2_with fail
      go_meet
      case rel => exact ⟨c0, q, rfl, rfl, by omega, by omega, rfl⟩
    · go_wp2_with fail
      go_meet
      case rel => exact ⟨q, c0, rfl, rfl, by omega, by omega, rfl⟩
  case rest =>
  obtain ⟨q', c, rfl, rfl, hqr, hpr, hw⟩ := hcut
  subst hw
  go_upto_if 33 with (fail)
  go_cut [0, 1] (fun x y w' => ∃ a b : Nat, x = .int .u64 (a : Int) ∧ y = .int .u64 (b : Int) ∧ a ≤ b ∧ b ≤ c ∧ w' = wc)
  case first =>
    by_cases h : q' < p
    · go_wp2_with fail
      go_meet
      case rel => exact ⟨q', p, rfl, rfl, by omega, by omega, rfl⟩
    · go_wp2_with fail
      go_meet
      case rel => exact ⟨p, q', rfl, rfl, by omega, by omega, rfl⟩
  case rest =>
  obtain ⟨a, b, rfl, rfl, hab, hbc, hw⟩ := hcut
  subst hw
  clear hpq hqr hpr
  by_cases hc : 2 ^ 63 < c
  · have hc' : (9223372036854775808 : Int) < (c : Int) := by omega
    have hal := SS.out.alive
    have HAL := Bx.mk hal; clear hal SS hab hbc hc
    go_wp2_with fail
    refine HAL.out.mono ?_
    rintro e w1 ⟨rfl, hb⟩
    have HB := Bx.mk hb; clear hb HAL
    go_wp2_with fail
    go_ret
    exact ⟨rfl, HB.out⟩
  · have hc' : ¬ (9223372036854775808 : Int) < (c : Int) := by omega
    have hcE : c ≤ 2 ^ 63 := by omega
    have c1 := fun (u : World) (k : Below wc.heap.size wc u) => cover_any u a b hab (by omega) (SS.out.next k).tab (SS.out.next k).lt
    have c2 := fun (u : World) (k : Below wc.heap.size wc u) => cover_any u b c hbc (by omega) (SS.out.next k).tab (SS.out.next k).lt
    have c3 := fun (u : World) (k : Below wc.heap.size wc u) => cover_any u a c (by omega) (by omega) (SS.out.next k).tab (SS.out.next k).lt
    unfold sv at c1 c2 c3
    have C1 := Bx.mk c1; have C2 := Bx.mk c2; have C3 := Bx.mk c3
    have HAB := Bx.mk hab; have HBC := Bx.mk hbc; have HCE := Bx.mk hcE
    clear c1 c2 c3 hab hbc hcE hc
    go_wp2_with fail
    refine (C1.out wc (Below.refl _ _)).mono ?_
    rintro e w1 ⟨v1, rfl, hk1⟩
    have b1 := hk1.below
    have K1 := Bx.mk hk1; have B1 := Bx.mk b1
    clear hk1 b1 C1
    go_wp2_with fail
    refine (C2.out w1 B1.out).mono ?_
    rintro e w2 ⟨v2, rfl, hk2⟩
    have b2 := B1.out.trans (hk2.below.mono B1.out.size)
    have K2 := Bx.mk hk2; have B2 := Bx.mk b2
    clear hk2 b2 C2
    go_wp2_with fail
    refine (C3.out w2 B2.out).mono ?_
    rintro e w3 ⟨v3, rfl, hk3⟩
    have b3 := B2.out.trans (hk3.below.mono B2.out.size)
    have K3 := Bx.mk hk3; have B3 := Bx.mk b3
    clear hk3 b3 C3
    go_upto_region 15 with (fail)
    obtain ⟨x1, c1, rfl, hn1, hs1⟩ := own_src K1.out.own
    obtain ⟨x2, c2, rfl, hn2, hs2⟩ := own_src K2.out.own
    obtain ⟨i0, hi, hz0, hz1, hz2⟩ := info_parts infoC
    have HI := Bx.mk (And.intro hi (And.intro hz0 (And.intro hz1 hz2)))
    have L1 := Bx.mk (cover_le (b := a) (e := b) (by have := HBC.out; have := HCE.out; omega))
    have L2 := Bx.mk (cover_le (b := b) (e := c) HCE.out)
    have HS1 := Bx.mk hn1; have HS2 := Bx.mk hn2
    have k32 : Below w1.heap.size w1 w3 := K2.out.below.trans (K3.out.below.mono K2.out.below.size)
    have k33 : Below w1.heap.size w1 (w3.alloc (.cells #[] 24)) := k32.alloc k32.size _
    have HT1 := Bx.mk (hs1 _ k33)
    have HT2 := Bx.mk hs2
    clear hi hz0 hz1 hz2 hn1 hn2 hs1 hs2 k32 k33
    have hm1 : 0 + (coverN a b).length ≤ maxLen := by have := L1.out; unfold maxLen; omega
    have hb1 : (0 + (coverN a b).length) * 16 ≤ 140737488355328 := by have := L1.out; omega
    have M1 := Bx.mk (And.intro hm1 hb1); clear hm1 hb1
    have hm2 : 0 + (coverN a b).length + (coverN b c).length ≤ maxLen := by have := L1.out; have := L2.out; unfold maxLen; omega
    have hb2 : (0 + (coverN a b).length + (coverN b c).length) * 16 ≤ 140737488355328 := by have := L1.out; have := L2.out; omega
    have M2 := Bx.mk (And.intro hm2 hb2); clear hm2 hb2
    go_wp2_with (first
      | (refine wpList_append_src rfl (.tmp 70) (.tmp 71) 30 rfl w3.heap.size 24 i0 (.agg #[.int .u8 0, .int .u64 0]) 2 16 underCs HI.out.1 HI.out.2.1 HI.out.2.2.1 HI.out.2.2.2 rfl (by decide) _ _ _ rfl (own_empty w3) x1 (coverN a b).length c1 (ccells (coverN a b)) rfl HS1.out (ccells_length _) HT1.out (ccells_one _) M1.out.1 M1.out.2 (by simp) ?_; intro v' w4 hown hgrow _; have B4 := Bx.mk (((Below.refl w3.heap.size w3).alloc (Nat.le_refl _) (.cells #[] 24)).grown hgrow (by simp) (fun k hk => ownsRow_fresh (own_empty w3) k hk)); have O1 := Bx.mk hown; clear hgrow hown)
      | (refine wpList_append_src rfl (.tmp 72) (.tmp 73) 30 rfl w3.heap.size 24 i0 (.agg #[.int .u8 0, .int .u64 0]) 2 16 underCs HI.out.1 HI.out.2.1 HI.out.2.2.1 HI.out.2.2.2 rfl (by decide) _ _ _ rfl O1.out x2 (coverN b c).length c2 (ccells (coverN b c)) rfl HS2.out (ccells_length _) (HT2.out _ (K3.out.below.trans (B4.out.mono K3.out.below.size))) (ccells_one _) M2.out.1 M2.out.2 B4.out.size ?_; intro v'' w5 hown hgrow _; obtain ⟨xb, cb, rfl, hxb⟩ := own_shape hown; have B5 := Bx.mk (B4.out.grown hgrow B4.out.size (fun k hk => ownsRow_fresh O1.out k hk)); have O2 := Bx.mk hown; clear hgrow hown))
    have o2 : RowC w3.heap.size w5 (.slice xb (coverN a b ++ coverN b c).length cb) (coverN a b ++ coverN b c) := by
      have := O2.out
      unfold RowC
      rw [ccells_append, List.length_append]
      simpa [show ccells [] = [] from rfl] using this
    have tl : Tile a c (coverN a b ++ coverN b c) := tile_append (cover_tile _ (Nat.le_refl _) HAB.out (by have := HBC.out; have := HCE.out; omega)) (cover_tile _ (Nat.le_refl _) HBC.out HCE.out)
    have ln : (coverN a b).length + (coverN b c).length = (coverN a b ++ coverN b c).length := by rw [List.length_append]
    have ll : (coverN a b ++ coverN b c).length ≤ 256 := by rw [← ln]; have := L1.out; have := L2.out; omega
    rw [ln]
    generalize coverN a b ++ coverN b c = L at o2 tl ll ⊢
    have b5 : Below wc.heap.size wc w5 := B3.out.trans (B5.out.mono B3.out.size)
    have o3 : RowC w2.heap.size w5 v3 (coverN a c) := RowC.below K3.out.own B5.out
    have OO := Bx.mk o2; have TL := Bx.mk tl; have LL := Bx.mk ll; have B6 := Bx.mk b5; have O3 := Bx.mk o3
    clear o2 tl ln ll b5 o3 O1 O2 B4 B5 K1 K2 K3 B1 B2 B3 HS1 HS2 HT1 HT2 M1 M2 L1 L2 hxb
    go_loopg [13, 15] L.length (fun k v i wr => ∃ (t : Nat) (l : List (Nat × Nat)) (e : Nat), k = L.length - t ∧ t ≤ L.length ∧ i = .int .i64 (t : Int) ∧ RowC w5.heap.size wr v l ∧ Norm l ∧ Tile a e l ∧ Tile e c (L.drop t) ∧ Below w5.heap.size w5 wr)
    case atStart => exact ⟨0, [], a, by simp, Nat.zero_le _, rfl, World.ownsRow_nil _ _ _ _, trivial, rfl, TL.out, Below.refl _ _⟩
    case round =>
      obtain ⟨t, l, e, hk, ht, rfl, hown, hno, hti, htd, hb⟩ := hrel
      have HK := Bx.mk hk; have HO := Bx.mk hown; have HN := Bx.mk hno; have HT := Bx.mk hti; have HD := Bx.mk htd; have HB := Bx.mk hb
      clear hk hown hno hti htd hb
      by_cases hlt : t < L.length
      · obtain ⟨xa, ca, hv, hca, hxc, hcl⟩ := coords_own (RowC.below OO.out HB.out)
        cases hv
        obtain ⟨gB, oB, rfl, hgB, hcc⟩ := hcl (by rintro rfl; simp at hlt)
        obtain ⟨z1, z2⟩ := hcc t hlt
        clear hcl hcc hca hxc hgB
        have hdrop : L.drop t = L[t] :: L.drop (t + 1) := (List.getElem_cons_drop hlt).symm
        generalize L[t] = x at z1 z2 hdrop
        obtain ⟨k, j⟩ := x
        have hd2 := HD.out
        rw [hdrop] at hd2
        obtain ⟨d1, d2, d3⟩ := hd2
        simp only at z1 z2 d1 d2 d3
        have htile : Tile a (e + 2 ^ k) (l ++ [(k, j)]) := tile_append HT.out ⟨d1, d2, rfl⟩
        have hec := d3.le
        have hlen : l.length ≤ 128 := by
          rw [tile_lens HT.out HN.out (by have := HCE.out; have := Nat.two_pow_pos k; omega)]
          exact cover_le (by have := HCE.out; have := Nat.two_pow_pos k; omega)
        have HT2 := Bx.mk htile; have HE2 := Bx.mk hec; have HL2 := Bx.mk hlen; have HD2 := Bx.mk d3; have HD1 := Bx.mk hdrop
        clear htile hec hlen d1 d2 d3 hdrop
        have hlI : (t : Int) < (L.length : Int) := by omega
        go_wp2_with ((at_builtin; refine wpList_append_own _ rfl _ _ 30 rfl w5.heap.size 24 i0 (.agg #[.int .u8 0, .int .u64 0]) 2 16 underCs HI.out.1 HI.out.2.1 HI.out.2.2.1 HI.out.2.2.2 rfl (by decide) _ _ _ rfl (own_below HO.out (below_new _ _)) ⟨wr.heap.size, 0, none⟩ 1 1 (ccells [(k, j)]) rfl rfl ?c1 ?c2 ?c3 ?c4 ?c5 ?_))
        case c1 =>
          intro j u hj
          match j, hj with
          | 0, hj => simp [ccells] at hj; subst hj; simp [Addr.add]
          | 1, hj => simp [ccells] at hj; subst hj; simp [Addr.add]
        case c2 => exact ccells_one _
        case c3 => have := HL2.out; unfold maxLen; omega
        case c4 => have := HL2.out; omega
        case c5 => have := HB.out.size; simp at this ⊢; omega
        intro v' w6 hown' hgrow _
        have ho6 : RowC w5.heap.size w6 v' (l ++ [(k, j)]) := by
          unfold RowC
          rw [ccells_append, List.length_append]
          exact hown'
        have hb6 : Below w5.heap.size w5 w6 := (HB.out.alloc HB.out.size _).grown hgrow (by have := HB.out.size; simp at this ⊢; omega) (fun k hk => ownsRow_fresh HO.out k hk)
        have HO6 := Bx.mk ho6; have HB6 := Bx.mk hb6
        clear hown' hgrow ho6 hb6
        go_wp2_with fail
        have hbs : w5.heap.size ≤ w6.heap.size := HB6.out.size
        have hE6 : e + 2 ^ k ≤ 2 ^ 63 := by have := HE2.out; have := HCE.out; omega
        have HE6 := Bx.mk hE6; have HBS := Bx.mk hbs
        have HLT := Bx.mk hlt
        clear hE6 hbs
        refine joins_inner_q HE6.out HBS.out HO6.out HN.out HT2.out ?_
        intro l' v13 v16 v17 v18 v19 v20 v88 v89 v90 v91 v92 v93 v94 v95 v96 v97 v98 v99 v100 v101 v102 v103 v104 v105 v106 v107 v108 v109 v110 v111 v112 v113 v114 v115 v116 v117 v118 v119 v120 v121 v122 v123 v124 v125 v126 v127 v128 w7 ho hn ht7 hb7
        have HO7 := Bx.mk ho; have HN7 := Bx.mk hn; have HT7 := Bx.mk ht7; have HB7 := Bx.mk (HB6.out.trans hb7)
        clear ho hn ht7 hb7
        go_wp2_with fail
        go_roundg (L.length - (t + 1))
        case measure => have := HK.out; have := HLT.out; omega
        case rel => exact ⟨t + 1, l', e + 2 ^ k, rfl, HLT.out, (by have h1 := LL.out; have h2 := HLT.out; rw [show (t : Int) + 1 = ((t + 1 : Nat) : Int) by simp]; first | rfl | rw [wrap_small (n := t + 1) (by omega)]), HO7.out, HN7.out, HT7.out, HD2.out, HB7.out⟩
      · obtain rfl : t = L.length := by omega
        have hl' : ¬ ((L.length : Int) < (L.length : Int)) := by omega
        have he : e = c := by have := HD.out; rw [List.drop_length] at this; exact this
        subst he
        have hs := same_any wr _ _ l (coverN a e) (coords_own HO.out) (coords_own (RowC.below O3.out HB.out))
        rw [decide_eq_true (tile_lens HT.out HN.out HCE.out)] at hs
        have HS := Bx.mk hs; clear hs
        go_wp2_with fail
        refine HS.out.mono ?_
        rintro e' w6 ⟨rfl, hb⟩
        have b6 := B6.out.trans ((HB.out.trans (hb.mono HB.out.size)).mono B6.out.size)
        have HA := Bx.mk ((SS.out.next b6).alive)
        have B7 := Bx.mk b6; clear b6 hb
        go_wp2_with fail
        refine HA.out.mono ?_
        rintro e' w7 ⟨rfl, hb⟩
        have b7 := B7.out.trans (hb.mono B7.out.size)
        have B8 := Bx.mk b7; clear b7 hb
        go_wp2_with fail
        go_ret
        exact ⟨rfl, B8.out⟩
end Go.Proofs.YtifnmidecjmmnaaDoor
