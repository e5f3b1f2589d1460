/- cartularylaw04.ShaCuts walked. -/
import Derived.Test.YtfoknhogclfhhaaDoorCopies
namespace Go.Proofs.YtfoknhogclfhhaaDoor
set_option maxRecDepth 100000
open Go.RowKit
/-- a value that reads as whole numbers -/
def IntsZ (w : World) (v : Value) (xs : List Int) : Prop :=
  ∃ (a : Option Addr) (cap : Nat), v = .slice a xs.length cap ∧ xs.length ≤ cap ∧ cap ≤ maxLen ∧
    (xs ≠ [] → ∃ B off, a = some ⟨B, off, none⟩ ∧ B < w.heap.size ∧ ∀ i, (h : i < xs.length) → w.cell? ⟨B, off + i, none⟩ = some (.int .i64 xs[i]))
theorem IntsZ.below {w w' : World} {v : Value} {xs : List Int} (h : IntsZ w v xs) (k : Below w.heap.size w w') : IntsZ w' v xs := by
  obtain ⟨a, c, h1, h2, h3, h4⟩ := h
  refine ⟨a, c, h1, h2, h3, fun hne => ?_⟩
  obtain ⟨B, off, e1, e2, e3⟩ := h4 hne
  exact ⟨B, off, e1, Nat.lt_of_lt_of_le e2 k.size, fun i hi => (k.cell (p := ⟨B, off + i, none⟩) e2).trans (e3 i hi)⟩
theorem IntsZ.at {w : World} {a : Option Addr} {n c : Nat} {xs : List Int} (h : IntsZ w (.slice a n c) xs) (t : Nat) (ht : t < xs.length) : ∃ B off, a = some ⟨B, off, none⟩ ∧ w.cell? ⟨B, off + t, none⟩ = some (.int .i64 xs[t]) := by
  obtain ⟨a', c', e1, _, _, e4⟩ := h
  cases e1
  obtain ⟨B, off, h1, _, h2⟩ := e4 (by rintro rfl; simp at ht)
  exact ⟨B, off, h1, h2 t ht⟩
theorem ints_two (w : World) (a b : Nat) (n : Nat) (hn : n = w.heap.size) : Ints (w.alloc (.cells #[.int .i64 (a : Int), .int .i64 (b : Int)] 3)) (.slice (some ⟨n, 0, none⟩) 2 2) [a, b] := by
  subst hn
  exact ⟨_, 2, rfl, Nat.le_refl _, by simp [maxLen], fun _ => ⟨w.heap.size, 0, rfl, by simp, fun i hi => by
    rw [World.cell?_alloc_at _ _ _ _ rfl]
    match i, hi with
    | 0, _ => rfl
    | 1, _ => rfl
    | n + 2, h => exact absurd h (by simp)⟩⟩
/-- a row of texts of the call's own -/
def RowS (base : Nat) (w : World) (v : Value) (ss : List ByteArray) : Prop := w.ownsRow base 9 1 v ss.length (ss.map Value.string)
theorem RowS.strs {base : Nat} {w : World} {v : Value} {ss : List ByteArray} (h : RowS base w v ss) : Strs w v ss := by
  rcases h.2 with ⟨rfl, h0⟩ | ⟨g, cap, cur, rfl, hb, hg, h1, h2, h3, h4⟩
  · obtain rfl := List.length_eq_zero_iff.1 h0
    exact ⟨none, 0, rfl, by simp, by simp [maxLen], fun h => absurd rfl h⟩
  · refine ⟨_, cap, rfl, h1, h2, fun _ => ⟨g, 0, rfl, (Array.getElem?_eq_some_iff.1 hg).1, fun i hi => ?_⟩⟩
    have := h.cells (g := g) rfl i (.string ss[i]) (by simp [hi])
    by_cases h0 : i = 0
    · subst h0; simpa [Addr.add] using this
    · simpa [Addr.add, h0] using this
theorem infoS : (Tryd.prog.info? 9).map (fun i => (i.zero, i.size, i.bytes)) = some (some (.string ByteArray.empty), 1, 16) := by kernel_rfl
theorem underSS : Tryd.prog.underlying 45 = some (.slice 9) := by kernel_rfl
theorem cat_snoc (ss : List ByteArray) (x : List UInt8) : cat (ss ++ [⟨x.toArray⟩]) = cat ss ++ x := by simp [cat, sb]
theorem cut_step (l : List UInt8) (a b : Nat) (h : a ≤ b) : l.take a ++ (l.drop a).take (b - a) = l.take b := by
  obtain ⟨k, rfl⟩ := Nat.le.dest h
  rw [Nat.add_sub_cancel_left, List.take_add]
theorem cut_src {w : World} {a : Option Addr} {n c : Nat} {l : List UInt8} (h : Src w (.slice a n c) l) (x y : Nat) (hxy : x ≤ y) (hy : y ≤ n) :
    Src w (.slice (if c = x then a else a.map fun z => z.add x) (y - x) (c - x)) ((l.drop x).take (y - x)) := by
  by_cases h0 : x = 0
  · subst h0
    have h' := h.take y hy
    rw [List.drop_zero, Nat.sub_zero, Nat.sub_zero]
    have e : (if c = 0 then a else a.map fun z => z.add 0) = a := by
      split
      · rfl
      · cases a <;> simp [Addr.add]
    rw [e]; exact h'
  · exact (h.drop x (by omega) h0).take (y - x) (by omega)
theorem sumC1 (V : World) (hT : Tab V) (hgs : 0 < V.heap.size) (x : List UInt8) (u : World) (n : Nat) (T : TypeId) (fr : Nat × Nat)
    (h : u.heap[n]? = some (.cells #[.string ⟨x.toArray⟩] T fr)) (hb : Below V.heap.size V u) (hlen : x.length < 576460752303423488) :
    Calls Tryd.prog 13 #[.slice (some ⟨n, 0, none⟩) 1 1] u fun e w' => e = .returned (.agg (ocells (sha x))) ∧ Below u.heap.size u w' :=
  sumC V hT hgs [⟨x.toArray⟩] 1 rfl (by simp [maxLen]) x (by simp [cat, sb]) hlen u n hb T fr h
theorem sumC1k (V : World) (hT : Tab V) (hgs : 0 < V.heap.size) (x : List UInt8) (u w0 : World) (T : TypeId)
    (h : Below (w0.alloc (.cells #[.string ⟨x.toArray⟩] T)).heap.size (w0.alloc (.cells #[.string ⟨x.toArray⟩] T)) u) (hb : Below V.heap.size V u) (hlen : x.length < 576460752303423488) :
    Calls Tryd.prog 13 #[.slice (some ⟨w0.heap.size, 0, none⟩) 1 1] u fun e w' => e = .returned (.agg (ocells (sha x))) ∧ Below u.heap.size u w' :=
  sumC1 V hT hgs x u _ T (0, 0) ((h.block _ (by simp)).trans (heap_alloc_new _ _)) hb hlen
theorem sumC1d (V : World) (hT : Tab V) (hgs : 0 < V.heap.size) (x : List UInt8) (u w0 : World) (T : TypeId)
    (h : Below (w0.alloc (.cells #[.string ⟨x.toArray⟩] T)).drew.heap.size (w0.alloc (.cells #[.string ⟨x.toArray⟩] T)).drew u) (hb : Below V.heap.size V u) (hlen : x.length < 576460752303423488) :
    Calls Tryd.prog 13 #[.slice (some ⟨w0.heap.size, 0, none⟩) 1 1] u fun e w' => e = .returned (.agg (ocells (sha x))) ∧ Below u.heap.size u w' :=
  sumC1 V hT hgs x u _ T (0, 0) ((h.block _ (by show w0.heap.size < (w0.alloc _).heap.size; simp)).trans (heap_alloc_new _ _)) hb hlen
set_option maxHeartbeats 6400000 in
set_option maxRecDepth 100000 in
theorem cuts_any (w : World) (va vc : Value) (l : List UInt8) (xs : List Int) (ha : Src w va l) (hc : IntsZ w vc xs) (hl : l.length + xs.length < 9223372036854775808) (hT : Tab w) (hgs : 0 < w.heap.size) :
    Calls Tryd.prog 5 #[va, vc] w fun e w' => e = .returned (.bool true) ∧ Below w.heap.size w w' := by
  have hal := alive_any w hT hgs
  have HA := Bx.mk hal; have HT := Bx.mk hT; have SA := Bx.mk ha; have SC := Bx.mk hc
  obtain ⟨a1, c1, rfl, hc1, hc2, hc3, h1⟩ := ha
  obtain ⟨a2, c2, rfl, hd1, hd2, h2⟩ := hc
  clear hal hT h1 h2 hc3
  go_enter Tryd.func5, Tryd.ntmps5
  go_wp2_with fail
  refine HA.out.mono ?_
  rintro e w1 ⟨rfl, hb1⟩
  have HB1 := Bx.mk hb1; clear hb1
  go_wp2_with fail
  have hbe := beyond_any (w1.alloc (.cells #[.int .i64 (l.length : Int), .int .i64 (xs.length : Int)] 3)) (.slice (some ⟨w1.heap.size, 0, none⟩) 2 2) [l.length, xs.length] (ints_two _ _ _ _ rfl) (by simp; omega)
  refine hbe.mono ?_
  rintro e w2 ⟨rfl, rfl⟩
  have hb2 := HB1.out.alloc HB1.out.size (.cells #[.int .i64 (l.length : Int), .int .i64 (xs.length : Int)] 3)
  generalize w1.alloc (.cells #[.int .i64 (l.length : Int), .int .i64 (xs.length : Int)] 3) = w2 at hb2 ⊢
  have HB2 := Bx.mk hb2; clear hb2 hbe HB1
  have hsum : [l.length, xs.length].sum = l.length + xs.length := by simp
  rw [hsum]; clear hsum
  by_cases hgt : 1048576 < l.length + xs.length
  · rw [decide_eq_true hgt]
    go_wp2_with fail
    have ha := alive_any w2 (HT.out.below hgs (HB2.out)) (Nat.lt_of_lt_of_le hgs HB2.out.size)
    refine ha.mono ?_
    rintro e w3 ⟨rfl, hb3⟩
    go_wp2_with fail
    go_ret
    exact ⟨rfl, HB2.out.trans (hb3.mono HB2.out.size)⟩
  · rw [decide_eq_false hgt]
    have hga : l.length ≤ 1048576 := by omega
    have hgc : xs.length ≤ 1048576 := by omega
    go_wp2_with fail
    refine (newP w2).mono ?_
    rintro e w3 ⟨p1, S1, rfl, hd1', hb3⟩
    have hg2 : 0 < w2.heap.size := Nat.lt_of_lt_of_le hgs HB2.out.size
    have t2 := HT.out.below hgs HB2.out
    have sa2 := SA.out.below HB2.out; have sc2 := SC.out.below HB2.out
    have D1 := Bx.mk hd1'; have HB3 := Bx.mk hb3; have T2 := Bx.mk t2; have SA2 := Bx.mk sa2; have SC2 := Bx.mk sc2
    clear hd1' hb3 t2 sa2 sc2 SA SC HA HT hgt hl
    go_wp2_with fail
    go_loopw [6, 7, 8] (fun pv fv i wr => ∃ (t fr : Nat) (ss : List ByteArray) (S : Nat → Prop), t ≤ xs.length + 1 ∧ i = .int .i64 (t : Int) ∧ fv = .int .i64 (fr : Int) ∧ fr ≤ l.length ∧ (t = xs.length + 1 → fr = l.length) ∧ ss.length = t ∧ cat ss = l.take fr ∧ RowS w2.heap.size wr pv ss ∧ DigP w2.heap.size wr p1 (l.take fr) S ∧ (∀ j, pv.ownBlock = some j → ¬ S j) ∧ Below w2.heap.size w2 wr) (fun _ _ i _ => xs.length + 1 - (intOf i).toNat)
    case atStart => exact ⟨0, 0, [], S1, by omega, rfl, rfl, by omega, by omega, rfl, rfl, ⟨rfl, .inl ⟨rfl, rfl⟩⟩, D1.out, (fun j h => by cases h), HB3.out⟩
    case round =>
      obtain ⟨t, fr, ss, S, ht, rfl, rfl, hfr, hend, hss, hcat, hrow, hdig, hsep, hb⟩ := hrel
      unfold RowS at hrow
      rw [hss] at hrow
      obtain ⟨a6, c6, rfl, q1, q2, q3⟩ := own_shape hrow
      have HR := Bx.mk hrow; have HD := Bx.mk hdig; have HS := Bx.mk hsep; have HB := Bx.mk hb; have HE := Bx.mk hend; have HC := Bx.mk hcat; have HSS := Bx.mk hss
      clear hrow hdig hsep hb hend hcat hss D1 HB3 q3
      by_cases hlt : t ≤ xs.length
      · go_upto_if 34 with (fail)
        go_cut [9] (fun v wc => ∃ nx : Nat, v = .int .i64 (nx : Int) ∧ fr ≤ nx ∧ nx ≤ l.length ∧ (t = xs.length → nx = l.length) ∧ wc = wr)
        case first =>
          by_cases hlt2 : t < xs.length
          · obtain ⟨B, off, rfl, hcell⟩ := (SC2.out.below HB.out).at t hlt2
            generalize xs[t] = x at hcell
            by_cases hx1 : (fr : Int) ≤ x
            · by_cases hx2 : (l.length : Int) < x
              · go_wp2_with fail
                all_goals (go_meet)
                all_goals (case rel => exact ⟨l.length, rfl, by omega, by omega, fun _ => rfl, rfl⟩)
              · obtain ⟨X, rfl⟩ := Int.eq_ofNat_of_zero_le (a := x) (by omega)
                have hx3 : (X : Int) ≤ (l.length : Int) := by omega
                go_wp2_with fail
                all_goals (go_meet)
                all_goals (case rel => first | exact ⟨X, rfl, by omega, by omega, by omega, rfl⟩ | exact ⟨fr, by congr 1; omega, by omega, by omega, by omega, rfl⟩)
            · have hx4 : x < (fr : Int) := by omega
              have hx5 : ¬ (l.length : Int) < (fr : Int) := by omega
              go_wp2_with fail
              all_goals (go_meet)
              all_goals (case rel => exact ⟨fr, rfl, by omega, by omega, by omega, rfl⟩)
          · go_wp2_with fail
            go_meet
            case rel => exact ⟨l.length, rfl, by omega, by omega, fun _ => rfl, rfl⟩
        case rest =>
        obtain ⟨nx, rfl, ht1, ht2, ht3, rfl⟩ := hcut
        have hsrc := cut_src (SA2.out.below HB.out) fr nx ht1 ht2
        have hxl : ((l.drop fr).take (nx - fr)).length = nx - fr := by simp; omega
        have hstep := cut_step l fr nx ht1
        obtain ⟨a', ha'⟩ : ∃ a', a' = (if c1 = fr then a1 else a1.map fun z => z.add fr) := ⟨_, rfl⟩
        rw [← ha'] at hsrc
        have hif := ha'.symm
        generalize hx : (l.drop fr).take (nx - fr) = x at hsrc hxl hstep
        have HX := Bx.mk hx; have HXL := Bx.mk hxl; have HST := Bx.mk hstep; have HSR := Bx.mk hsrc; have H3 := Bx.mk ht3; have HLT := Bx.mk hlt
        clear hx hxl hstep hsrc ht3 ha' hlt
        go_wp2_with fail
        rw [← HXL.out]
        refine (twin_any wc _ x (by have := HSR.out; rw [← HXL.out] at this; exact this) (by have := HXL.out; omega)).mono ?_
        rintro e w4 ⟨rfl, rfl⟩
        go_wp2_with fail
        refine (write_twin w2.heap.size wc p1 (l.take fr) x S HD.out (T2.out.below hg2 HB.out) hg2 (by have := HXL.out; omega) (by simp; omega) HB.out.size).mono ?_
        rintro e w5 ⟨rfl, hw5⟩
        have hb5 := HB.out.trans (hw5.below HB.out.size (fun k hk => HD.out.ge k hk))
        obtain ⟨S5, hd5, hs5⟩ := hw5.ex
        rw [HST.out] at hd5
        have hrow5 : w5.ownsRow w2.heap.size 9 1 (.slice a6 t c6) t (ss.map Value.string) := own_keep HR.out hw5.keep HS.out
        have hsep5 : ∀ j, (Value.slice a6 t c6).ownBlock = some j → ¬ S5 j := fun j hj h => by
          rcases hs5 j h with h | h
          · exact HS.out j hj h
          · have := (World.ownsRow.lt HR.out j hj).2; omega
        have hsr5 := cut_src (SA2.out.below hb5) fr nx ht1 ht2
        rw [hif, HX.out] at hsr5
        have hcv := hsr5.string
        rw [HXL.out]
        obtain ⟨i0, hi, hz0, hz1, hz2⟩ := info_parts infoS
        have hroom : t + 1 ≤ maxLen := by unfold maxLen; omega
        have hby : (t + 1) * 16 ≤ 140737488355328 := by omega
        have hnw : ∀ ad, some (⟨w5.heap.size, 0, none⟩ : Addr) = some ad → ∀ j u, [Value.string ⟨x.toArray⟩][j]? = some u → (w5.alloc (.cells #[.string ⟨x.toArray⟩] 9)).cell? (ad.add j) = some u := by
          rintro ad had j u hj
          cases had
          match j, hj with
          | 0, hj => simp at hj; subst hj; simp [Addr.add]
        have hk6 : Below w5.heap.size w5 (w5.alloc (.cells #[.string ⟨x.toArray⟩] 9)) := (Below.refl _ _).alloc (Nat.le_refl _) _
        have hrow6 : (w5.alloc (.cells #[.string ⟨x.toArray⟩] 9)).ownsRow w2.heap.size 9 1 (.slice a6 t c6) t (ss.map Value.string) := own_keep hrow5 (Keep.of_below hk6 (fun _ => False)) (fun _ _ h => h)
        have hbs : w2.heap.size ≤ (w5.alloc (.cells #[.string ⟨x.toArray⟩] 9)).heap.size := Nat.le_trans hb5.size hk6.size
        have RI := Bx.mk (And.intro hi (And.intro hz0 (And.intro hz1 hz2))); have Q1 := Bx.mk hroom; have Q2 := Bx.mk hby; have Q3 := Bx.mk hrow6; have Q4 := Bx.mk hbs; have Q5 := Bx.mk hnw; have HB5 := Bx.mk hb5; have D5 := Bx.mk hd5; have SP5 := Bx.mk hsep5; have CV := Bx.mk hcv; have K6 := Bx.mk hk6; have R5 := Bx.mk hrow5
        clear hi hz0 hz1 hz2 hroom hby hrow6 hbs hnw hb5 hd5 hsep5 hs5 hsr5 hk6 hrow5 hw5 hcv
        have hcv := CV.out w5 (Below.refl _ _)
        go_upto_region 14 with (refine wpList_append_src rfl (.tmp 51) (.tmp 57) 45 rfl w2.heap.size 9 i0 (.string ByteArray.empty) 1 16 underSS RI.out.1 RI.out.2.1 RI.out.2.2.1 RI.out.2.2.2 rfl (by decide) (.slice a6 t c6) _ _ rfl Q3.out (some ⟨w5.heap.size, 0, none⟩) 1 1 [Value.string ⟨x.toArray⟩] rfl (by simp) rfl Q5.out (by simp [Value.oneCell']) Q1.out Q2.out Q4.out ?_; intro v' w7 hown' hgrow hfr; have G1 := Bx.mk hgrow; have O1 := Bx.mk hown'; have F1 := Bx.mk hfr; clear hgrow hfr hown')
        obtain ⟨a7, c7, hv7, r1, r2, -⟩ := own_shape O1.out
        subst hv7
        have hd6 := D5.out.below K6.out
        have hd7 := hd6.kept (Keep.of_grown G1.out) (fun j h1 h2 => SP5.out j h2 h1)
        have hsep7 : ∀ j, (Value.slice a7 (t + 1) c7).ownBlock = some j → ¬ S5 j := fun j hj h => by
          rcases F1.out with h2 | h2
          · exact SP5.out j (h2 ▸ hj) h
          · have := D5.out.lt j h; have := h2 j hj; have := K6.out.size; omega
        have hb7 : Below w2.heap.size w2 w7 := (HB5.out.alloc HB5.out.size _).grown G1.out (Nat.le_trans HB5.out.size K6.out.size) (fun k hk => ownsRow_fresh R5.out k hk)
        have hT7 := T2.out.below hg2 hb7
        have hg7 : 0 < w7.heap.size := Nat.lt_of_lt_of_le hg2 hb7.size
        have hcx := ((SA2.out.below hb7).take nx ht2).string
        have hif0 : (if c1 = 0 then a1 else a1.map fun z => z.add 0) = a1 := by
          split
          · rfl
          · cases a1 <;> simp [Addr.add]
        have lnx : (l.take nx).length < 576460752303423488 := by simp; omega
        generalize hy : l.take nx = y at hd7 hcx lnx
        have hq := fun (u : World) (h : Below w7.heap.size w7 u) => dsumC _ w7 p1 y S5 hd7 hT7 hg7 lnx u h
        have hs := sumC1 w7 hT7 hg7 y; have hsk := sumC1k w7 hT7 hg7 y; have hsd := sumC1d w7 hT7 hg7 y
        have HQ := Bx.mk hq; have HS1 := Bx.mk hs; have HSK := Bx.mk hsk; have HSD := Bx.mk hsd; have D7 := Bx.mk hd7; have SP7 := Bx.mk hsep7; have HB7 := Bx.mk hb7; have CX := Bx.mk hcx; have HY := Bx.mk hy
        have hcx' := fun u h => CX.out u h
        have hne := hne_same y
        clear hq hs hsk hsd hd6 hd7 hsep7 hb7 hcx hy hT7 hcv D5 SP5 K6 R5 Q1 Q2 Q3 Q4 Q5 G1 F1 HSR HR HD HS
        go_cut [76] (fun v wc => v = .bool false ∧ Below w7.heap.size w7 wc)
        case first =>
          have ne := Blw.ne w7.heap.size w7
          by_cases h2 : t % 2 = 1
          · have b1 : (0 : Int) ≤ (nx : Int) := by omega
            have b2 : (nx : Int) ≤ (c1 : Int) := by omega
            have h2' : (t : Int).tmod 2 = 1 := by rw [Int.tmod_eq_emod_of_nonneg (by omega)]; omega
            clear h2
            by_cases h20 : (t : Int) < 20
            · go_region_held3 (fun u => Below w7.heap.size w7 u) (first | assumption | exact (Below.refl _ _).drew | exact Below.alloc (by assumption) (Below.size (by assumption)) _ | exact Below.trans (by assumption) (Below.mono (by assumption) (Below.size (by assumption)))) ((first
                | (go_at_call_of 16 (Value.pointer (some ⟨p1, 0, none⟩)); refine (HQ.out _ (by assumption)).mono ?_; rintro e w' ⟨rfl, hb⟩)
                | (go_at_call 13; (first | with_reducible refine Calls.mono (HS1.out _ _ _ _ (heap_alloc_new _ _) ?_ ?_) ?_ | with_reducible refine Calls.mono (HSK.out _ _ _ (by assumption) ?_ ?_) ?_ | with_reducible refine Calls.mono (HSD.out _ _ _ (by assumption) ?_ ?_) ?_); assumption; exact lnx; rintro e w' ⟨rfl, hb⟩)))
              all_goals (go_wp2_with fail; go_meet; case rel => exact ⟨rfl, by assumption⟩)
            · refine wp_region_quiet_c (C := fun w' => ∃ u : Blw w7.heap.size w7, w' = u.w) (by kernel_rfl) (by kernel_rfl) ⟨⟨_, (Below.refl _ _).drew⟩, rfl⟩ ?_
              repeat (go_big_quiet_step (fail))
              refine wpQuiet_nil ?_
              rintro _ ⟨u, rfl⟩
              go_wp2_with fail
              go_meet
              case rel => exact ⟨rfl, u.h⟩
          · have h2' : (t : Int).tmod 2 = 0 := by rw [Int.tmod_eq_emod_of_nonneg (by omega)]; omega
            clear h2
            refine wp_region_quiet_c (C := fun w' => ∃ u : Blw w7.heap.size w7, w' = u.w) (by kernel_rfl) (by kernel_rfl) ⟨⟨_, (Below.refl _ _).drew⟩, rfl⟩ ?_
            repeat (go_big_quiet_step (fail))
            refine wpQuiet_nil ?_
            rintro _ ⟨u, rfl⟩
            go_wp2_with fail
            go_meet
            case rel => exact ⟨rfl, u.h⟩
        case rest =>
        obtain ⟨rfl, hb8⟩ := hcut
        have HB8 := Bx.mk hb8; clear hb8 hcx' hne hif hif0
        go_wp2_with fail
        go_roundw
        case rel =>
          refine ⟨t + 1, nx, ss ++ [⟨x.toArray⟩], S5, Nat.succ_le_succ HLT.out, by go_num, rfl, ht2, fun h => H3.out (by omega), by rw [List.length_append, HSS.out]; rfl, by rw [cat_snoc, HC.out, HST.out], ?_, ?_, SP7.out, HB7.out.trans (HB8.out.mono HB7.out.size)⟩
          · unfold RowS
            rw [List.length_append, HSS.out, List.map_append]
            exact own_keep O1.out (Keep.of_below HB8.out (fun _ => False)) (fun _ _ h => h)
          · rw [HY.out]; exact D7.out.below HB8.out
        case measure => have := HLT.out; simp [intOf]; omega
      · obtain rfl : t = xs.length + 1 := by omega
        obtain rfl := HE.out rfl
        have hst : Strs wr (.slice a6 (xs.length + 1) c6) ss := RowS.strs (base := w2.heap.size) (by unfold RowS; rw [HSS.out]; exact HR.out)
        have hcat : cat ss = l := by rw [HC.out, List.take_length]
        have hd0 := HD.out
        rw [List.take_length] at hd0
        have hT0 := T2.out.below hg2 HB.out
        have hg0 : 0 < wr.heap.size := Nat.lt_of_lt_of_le hg2 HB.out.size
        have hcx := (SA2.out.below HB.out).string
        have hlen : l.length < 576460752303423488 := by omega
        have hsz : (Tryd.prog.info? 38).map (·.size) = some (ocells (sha l)).size := by rw [sizeH, ocells_size, sha_length]
        have hso : zeros32.size = (ocells (sha l)).size := by unfold zeros32; rw [ocells_size, ocells_size, sha_length]; rfl
        have HSZ := Bx.mk hsz; have HSO := Bx.mk hso; have CX := Bx.mk hcx; have ST := Bx.mk hst; have CT := Bx.mk hcat; have D0 := Bx.mk hd0; have T0 := Bx.mk hT0
        clear hsz hso hcx hst hcat hd0 hT0 HE HC HD HS HSS HR
        have hcx' := CX.out wr (Below.refl _ _)
        go_wp2_with fail
        have hb9 : Below wr.heap.size wr (wr.alloc (.cells #[.string ⟨l.toArray⟩] 9)) := (Below.refl _ _).alloc (Nat.le_refl _) _
        refine (sumC1 wr T0.out hg0 l _ _ _ _ (heap_alloc_new _ _) hb9 hlen).mono ?_
        rintro e w10 ⟨rfl, hb10⟩
        have hb11 := hb9.trans (hb10.mono hb9.size)
        have HB11 := Bx.mk hb11; clear hb9 hb10 hb11 hcx'
        go_upto_region 18 with (refine wpList_store_row rfl 38 (.tmp 10) (.tmp 81) rfl w10.heap.size (ocells (sha l)) rfl rfl _ zeros32 (heap_alloc_new _ _) HSZ.out HSO.out (ocells_one _) ?_; rw [setRow_alloc_new _ _ _ _ _ rfl])
        have x0 := heap_alloc_new w10 (.cells (ocells (sha l)) 38)
        have x1 := HB11.out.alloc HB11.out.size (.cells (ocells (sha l)) 38)
        generalize w10.alloc (.cells (ocells (sha l)) 38) = V at x0 x1 ⊢
        generalize w10.heap.size = hb at x0 ⊢
        have hdV := D0.out.below x1
        have hTV := T0.out.below hg0 x1
        have hgV : 0 < V.heap.size := Nat.lt_of_lt_of_le hg0 x1.size
        have hsV := ST.out.below x1
        have hds := fun (u : World) (h : Below V.heap.size V u) => dsumC _ V p1 l S hdV hTV hgV hlen u h
        have hln : ∀ u, Below V.heap.size V u → Calls Tryd.prog 19 #[.pointer (some ⟨p1, 0, none⟩)] u fun e w' => e = .returned (.int .u64 (l.length : Int)) ∧ Below u.heap.size u w' := fun u hu =>
          (lenP _ u p1 l S (hdV.below hu)).mono fun e w' ⟨he, hw⟩ => ⟨he, hw ▸ Below.refl _ _⟩
        have hps : ∀ u, Below V.heap.size V u → Calls Tryd.prog 13 #[.slice a6 (xs.length + 1) c6] u fun e w' => e = .returned (.agg (ocells (sha l))) ∧ Below u.heap.size u w' := fun u hu => by
          have := sum_any u _ ss (hsV.below hu) (hTV.below hgV hu) (Nat.lt_of_lt_of_le hgV hu.size) (by rw [CT.out]; exact hlen)
          rw [CT.out, hv_agg] at this
          exact this
        have hrow : ∀ u, BlwC V.heap.size V u → u.heap[hb]? = some (.cells (ocells (sha l)) 38 (0, 0)) := fun u ⟨u', hu⟩ => by
          subst hu; exact (u'.h.block hb ((Array.getElem?_eq_some_iff.1 x0).1)).trans x0
        have hlw : IntKind.u64.wrap (l.length : Int) = (l.length : Int) := u64_small _ (by omega) (by omega)
        have ne := Blw.ne V.heap.size V
        have HDS := Bx.mk hds; have HLN := Bx.mk hln; have HPS := Bx.mk hps; have HRO := Bx.mk hrow; have X1 := Bx.mk x1
        clear hds hln hps hrow x0 x1 hdV hTV hsV
        refine wp_region_quiet_c (C := fun w' => ∃ u : Blw V.heap.size V, w' = u.w) (by kernel_rfl) (by kernel_rfl) ⟨⟨_, (Below.refl _ _).drew⟩, rfl⟩ ?_
        have hq := heq_same l
        (try simp only [Act.put])
        go_big_quiet_step (fail)
        go_big_quiet_step (exact Calls.blw (Nat.le_refl _) HDS.out)
        go_big_quiet_want
        refine quiet_load_row 38 (.tmp 10) rfl hb rfl 38 (ocells (sha l)) (0, 0) _ HRO.out underH rfl HSZ.out ?_
        go_big_quiet_on
        simp only [Act.put, List.setIfInBounds_toArray, List.set_cons_succ, List.set_cons_zero]
        go_big_quiet_step (fail)
        go_big_quiet_step (fail)
        go_big_quiet_step (fail)
        go_big_quiet_step (exact Calls.blw (Nat.le_refl _) HDS.out)
        go_big_quiet_want
        refine quiet_load_row 38 (.tmp 10) rfl hb rfl 38 (ocells (sha l)) (0, 0) _ HRO.out underH rfl HSZ.out ?_
        go_big_quiet_on
        simp only [Act.put, List.setIfInBounds_toArray, List.set_cons_succ, List.set_cons_zero]
        go_big_quiet_step (fail)
        go_big_quiet_step (fail)
        go_big_quiet_step (fail)
        go_big_quiet_step (fail)
        go_big_quiet_step (exact Calls.blw (Nat.le_refl _) HPS.out)
        go_big_quiet_want
        refine quiet_load_row 38 (.tmp 10) rfl hb rfl 38 (ocells (sha l)) (0, 0) _ HRO.out underH rfl HSZ.out ?_
        go_big_quiet_on
        simp only [Act.put, List.setIfInBounds_toArray, List.set_cons_succ, List.set_cons_zero]
        go_big_quiet_step (fail)
        go_big_quiet_step (fail)
        go_big_quiet_step (fail)
        go_big_quiet_step (fail)
        go_big_quiet_step (exact Calls.blw (Nat.le_refl _) HLN.out)
        repeat (go_big_quiet_step (fail))
        refine wpQuiet_nil ?_
        rintro _ ⟨u, rfl⟩
        go_wp2_with fail
        go_ret
        exact ⟨rfl, (HB2.out.trans (HB.out.mono HB2.out.size)).trans ((X1.out.trans (u.h.mono X1.out.size)).mono (Nat.le_trans HB2.out.size HB.out.size))⟩
end Go.Proofs.YtfoknhogclfhhaaDoor
