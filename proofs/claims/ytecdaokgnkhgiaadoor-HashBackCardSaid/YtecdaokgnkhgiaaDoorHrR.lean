/- cartularyref05.Read. -/
import Derived.Test.YtecdaokgnkhgiaaDoorHrP
import Derived.Test.YtecdaokgnkhgiaaDoorHi
import Derived.Deep.RegionWith
namespace Go.Proofs.YtecdaokgnkhgiaaDoor
set_option maxRecDepth 100000
open Go.RowKit
theorem i64_q {n : Nat} (h : n < 1000) : IntKind.i64.wrap (n : Int) = (n : Int) := by simp [IntKind.wrap, IntKind.bits, IntKind.signed]; omega
/-- cartularyref02.Placed -/
theorem placed_any (w : World) (c p : Int) : Calls Tryd.prog 45 #[.int .i64 c, .int .i64 p] w fun e w' => e = .returned (.agg #[.int .i64 c, .int .i64 p]) ∧ Below w.heap.size w w' := by
  go_enter Tryd.func45, Tryd.ntmps45
  go_wp2_with fail
  exact bodyPost_ret (results_cell_row rfl _ _ w.heap.size _ #[.int .i64 c, .int .i64 p] _ _ rfl (heap_alloc_new _ _) Tryd.underlying34 rfl (by kernel_rfl)) rfl ⟨rfl, er_al (Below.refl _ _) _⟩
theorem set_one {X : World} {n q : Nat} {cs : Array Value} {T : TypeId} (h : X.heap[n]? = some (.cells cs T (0, 0))) (v : Value) :
    (X.setCell ⟨n, q, none⟩ v).heap[n]? = some (.cells (cs.setIfInBounds q v) T (0, 0)) ∧ ∀ k, k ≠ n → (X.setCell ⟨n, q, none⟩ v).heap[k]? = X.heap[k]? := by
  constructor
  · simp [World.setCell, Array.getElem?_modify, h]
  · intro k hk
    simp [World.setCell, Array.getElem?_modify, Ne.symm hk]
theorem ocells_setI (l : List UInt8) (q : Nat) (z : UInt8) : (ocells l).setIfInBounds q (.int .u8 (z.toNat : Int)) = ocells (l.set q z) := by
  unfold ocells bcells
  rw [List.map_set, List.setIfInBounds_toArray]
  rfl
/-- what the reference's Read hands back -/
def RdOut (l : List UInt8) : Option Nat → Value
  | none => .tuple #[hv (rdN l 64), .agg #[.int .i64 0, .int .i64 0]]
  | some b => .tuple #[hv zero32', .agg #[.int .i64 3, .int .i64 (b : Int)]]
set_option maxHeartbeats 6400000 in
theorem rread_any (w : World) (s : ByteArray) (hs : s.size < 9223372036854775808) :
    Calls Tryd.prog 27 #[.string s] w fun e w' => (∃ p, ReadAns (sb s) p ∧ e = .returned (RdOut (sb s) p)) ∧ Below w.heap.size w w' := by
  have x0 : (((w.alloc (.cells zeros32 24)).alloc (.cells fz 34)).alloc (.cells zeros32 24)).heap[w.heap.size]? = some (.cells zeros32 24 (0, 0)) := by
    rw [Below.heap_alloc _ _ _ (by simp; omega), Below.heap_alloc _ _ _ (by simp)]; exact heap_alloc_new _ _
  have x1 : (((w.alloc (.cells zeros32 24)).alloc (.cells fz 34)).alloc (.cells zeros32 24)).heap[w.heap.size + 1]? = some (.cells fz 34 (0, 0)) := by
    rw [Below.heap_alloc _ _ _ (by simp)]; simpa using heap_alloc_new (w.alloc (.cells zeros32 24)) (.cells fz 34)
  have x2 : (((w.alloc (.cells zeros32 24)).alloc (.cells fz 34)).alloc (.cells zeros32 24)).heap[w.heap.size + 1 + 1]? = some (.cells zeros32 24 (0, 0)) := by
    simpa using heap_alloc_new ((w.alloc (.cells zeros32 24)).alloc (.cells fz 34)) (.cells zeros32 24)
  have kb : Below w.heap.size w (((w.alloc (.cells zeros32 24)).alloc (.cells fz 34)).alloc (.cells zeros32 24)) := er_al (er_al (er_al (Below.refl _ _) _) _) _
  go_enter Tryd.func27, Tryd.ntmps27
  go_upto_region 2 with (fail)
  change Code.wp _ _ _ _ (((w.alloc (.cells zeros32 24)).alloc (.cells fz 34)).alloc (.cells zeros32 24))
  generalize ((w.alloc (.cells zeros32 24)).alloc (.cells fz 34)).alloc (.cells zeros32 24) = W at x0 x1 x2 kb ⊢
  have X0 := Bx.mk x0; have X1 := Bx.mk x1; have X2 := Bx.mk x2; have KB := Bx.mk kb
  clear x0 x1 x2 kb
  have hz32 : zeros32 = ocells (rdN (sb s) 0) := rfl
  have HZ := Bx.mk hz32; clear hz32
  have hsl : (sb s).length = s.size := sb_length s
  have HSL := Bx.mk hsl; clear hsl
  go_wp2_with fail
  go_loopw [5] (fun i wr => ∃ t : Nat, t ≤ 64 ∧ i = .int .i64 (t : Int) ∧ GoodTo (sb s) t ∧ wr.heap[w.heap.size]? = some (.cells zeros32 24 (0, 0)) ∧ wr.heap[w.heap.size + 1]? = some (.cells fz 34 (0, 0)) ∧ wr.heap[w.heap.size + 1 + 1]? = some (.cells (ocells (rdN (sb s) t)) 24 (0, 0)) ∧ Below w.heap.size w wr) (fun i _ => 64 - (intOf i).toNat)
  case atStart => exact ⟨0, Nat.zero_le _, rfl, fun j hj => absurd hj (Nat.not_lt_zero _), X0.out, X1.out, by rw [← HZ.out]; exact X2.out, KB.out⟩
  case round =>
    obtain ⟨t, ht, rfl, hg, hu0, hu1, hu2, hb⟩ := hrel
    have HG := Bx.mk hg; have HU0 := Bx.mk hu0; have HU1 := Bx.mk hu1; have HU2 := Bx.mk hu2; have HB := Bx.mk hb
    clear hg hu0 hu1 hu2 hb
    have tail : ∀ w1, Below wr.heap.size wr w1 → Bx (w1.heap[w.heap.size]? = some (.cells zeros32 24 (0, 0)) ∧ w1.heap[w.heap.size + 1]? = some (.cells fz 34 (0, 0)) ∧ Below w.heap.size w w1) := fun w1 k =>
      ⟨(k.block _ (Array.getElem?_eq_some_iff.1 HU0.out).1).trans HU0.out, (k.block _ (Array.getElem?_eq_some_iff.1 HU1.out).1).trans HU1.out, HB.out.trans (k.mono HB.out.size)⟩
    have TAIL := Bx.mk tail; clear tail
    by_cases hlt : t < 64
    · by_cases hlen : s.size ≤ t
      · have hp := placed_any wr 3 (t : Int)
        have HP := Bx.mk hp; clear hp
        go_wp2_with fail
        refine HP.out.mono ?_
        rintro e w1 ⟨rfl, hb1⟩
        have T := TAIL.out w1 hb1
        clear hb1
        have u2 : (w1.setRow w.heap.size (ocells zero32')).heap[w.heap.size + 1]? = some (.cells #[.int .i64 0, .int .i64 0] 34 (0, 0)) := by
          rw [heap_setRow_other _ _ _ _ (by omega)]
          exact T.out.2.1
        have c0 := er_cellAt u2 0 _ rfl
        have c1 := er_cellAt u2 1 _ rfl
        have f0 := er_frozen u2 0
        have f1 := er_frozen u2 1
        have r1 : (w1.setRow w.heap.size (ocells zero32')).heap[w.heap.size]? = some (.cells (ocells zero32') 24 (0, 0)) := setRow_heap _ _ _ _ _ _ T.out.1
        have b3 : Below w.heap.size w (w1.setRow w.heap.size (ocells zero32')) := below_setRow T.out.2.2 (Nat.le_refl _) _
        have U2 := Bx.mk u2; have B3 := Bx.mk b3; have R1' := Bx.mk r1; clear u2 b3 r1
        go_wp2_with (refine wpList_store_row rfl 24 (.tmp 2) (.tmp 21) rfl w.heap.size (ocells zero32') rfl rfl _ _ T.out.1 (hszL zero32'_length) (hsoL zero32'_length) (ocells_one _) ?_)
        have tw := two_set U2.out (.int .i64 3) (.int .i64 (t : Int))
        exact bodyPost_ret (results_two_rows rfl _ _ w.heap.size (w.heap.size + 1) _ _ (ocells zero32') #[.int .i64 3, .int .i64 (t : Int)] _ _ rfl ((tw.2 _ (by omega)).trans R1'.out) (hszL zero32'_length) rfl tw.1 (by kernel_rfl)) rfl ⟨⟨some t, ⟨HG.out, .inr ⟨hlt, .inl (by rw [HSL.out]; exact hlen)⟩⟩, rfl⟩, (B3.out.setCell (Nat.le_succ _) _).setCell (Nat.le_succ _) _⟩
      · have hx : (sb s)[t]'(by rw [HSL.out]; omega) = s[t] := rfl
        have hgd : (sb s).getD t 0 = s[t] := by rw [List.getD_eq_getElem?_getD, List.getElem?_eq_getElem (by rw [HSL.out]; omega)]; exact hx
        have HGD := Bx.mk hgd; clear hx hgd
        have hw := fun u => worth_any u s[t]
        by_cases hbad : (lett (s[t].toNat : Int)).2 = false
        · have hp := placed_any wr 3 (t : Int)
          have HP := Bx.mk hp; clear hp
          have hw1 := hw wr
          rw [wor_bad hbad] at hw1
          have HW1 := Bx.mk hw1; clear hw hw1
          have HBAD := Bx.mk hbad; clear hbad
          go_wp2_with fail
          refine HW1.out.mono ?_
          rintro e w0 ⟨rfl, rfl⟩
          go_wp2_with fail
          refine HP.out.mono ?_
          rintro e w1 ⟨rfl, hb1⟩
          have T := TAIL.out w1 hb1
          clear hb1
          have u2 : (w1.setRow w.heap.size (ocells zero32')).heap[w.heap.size + 1]? = some (.cells #[.int .i64 0, .int .i64 0] 34 (0, 0)) := by
            rw [heap_setRow_other _ _ _ _ (by omega)]
            exact T.out.2.1
          have c0 := er_cellAt u2 0 _ rfl
          have c1 := er_cellAt u2 1 _ rfl
          have f0 := er_frozen u2 0
          have f1 := er_frozen u2 1
          have r1 : (w1.setRow w.heap.size (ocells zero32')).heap[w.heap.size]? = some (.cells (ocells zero32') 24 (0, 0)) := setRow_heap _ _ _ _ _ _ T.out.1
          have b3 : Below w.heap.size w (w1.setRow w.heap.size (ocells zero32')) := below_setRow T.out.2.2 (Nat.le_refl _) _
          have U2 := Bx.mk u2; have B3 := Bx.mk b3; have R1' := Bx.mk r1; clear u2 b3 r1
          go_wp2_with (refine wpList_store_row rfl 24 (.tmp 2) (.tmp 21) rfl w.heap.size (ocells zero32') rfl rfl _ _ T.out.1 (hszL zero32'_length) (hsoL zero32'_length) (ocells_one _) ?_)
          have tw := two_set U2.out (.int .i64 3) (.int .i64 (t : Int))
          exact bodyPost_ret (results_two_rows rfl _ _ w.heap.size (w.heap.size + 1) _ _ (ocells zero32') #[.int .i64 3, .int .i64 (t : Int)] _ _ rfl ((tw.2 _ (by omega)).trans R1'.out) (hszL zero32'_length) rfl tw.1 (by kernel_rfl)) rfl ⟨⟨some t, ⟨HG.out, .inr ⟨hlt, .inr (by rw [HGD.out]; exact HBAD.out)⟩⟩, rfl⟩, (B3.out.setCell (Nat.le_succ _) _).setCell (Nat.le_succ _) _⟩
        · have hgood : (lett (s[t].toNat : Int)).2 = true := by cases h : (lett (s[t].toNat : Int)).2 <;> simp_all
          obtain ⟨hk0, hk1⟩ := lett_bound (s[t].toNat : Int)
          have hwk := wor_good hgood
          obtain ⟨k, hk⟩ : ∃ k : Nat, (lett (s[t].toNat : Int)).1 = (k : Int) := ⟨(lett (s[t].toNat : Int)).1.toNat, by omega⟩
          rw [hk] at hwk hk0 hk1
          have hw1 := hw
          rw [hwk] at hw1
          have hstp : rdN (sb s) (t + 1) = (rdN (sb s) t).set (t / 2) ((rdN (sb s) t).getD (t / 2) 0 * 16 + UInt8.ofNat k) := by
            show stp _ t ((sb s).getD t 0) = _
            rw [HGD.out, stp, hwk]
            rfl
          have hrl := rdN_length (sb s) t
          generalize rdN (sb s) t = h at hstp hrl HU2
          obtain ⟨q, hq⟩ : ∃ q, q = t / 2 := ⟨_, rfl⟩
          have hq32 : q < h.length := by omega
          rw [← hq, List.getD_eq_getElem?_getD, List.getElem?_eq_getElem hq32, Option.getD_some] at hstp
          have cq : wr.cell? ⟨w.heap.size + 1 + 1, q, none⟩ = some (.int .u8 (h[q].toNat : Int)) := er_cellAt HU2.out _ _ (by simp [ocells, bcells, bcell, hq32])
          have fq := er_frozen HU2.out q
          generalize h[q] = y at cq hstp
          obtain ⟨z, hz⟩ : ∃ z, z = y * 16 + UInt8.ofNat k := ⟨_, rfl⟩
          rw [← hz] at hstp
          obtain ⟨m1, hm1⟩ : ∃ m1 : Nat, m1 = (y.toNat * 16) % 256 := ⟨_, rfl⟩
          have hy : y.toNat < 256 := y.toNat_lt
          have d1 : (t : Int).tdiv 2 = (q : Int) := by rw [Int.tdiv_eq_ediv_of_nonneg (by omega)]; omega
          have d2 : IntKind.i64.wrap (q : Int) = (q : Int) := i64_q (by omega)
          have d3 : IntKind.u8.wrap ((y.toNat : Int) * 16) = (m1 : Int) := by simp [IntKind.wrap, IntKind.bits, IntKind.signed]; omega
          have d4 : IntKind.u8.wrap (k : Int) = (k : Int) := by simp [IntKind.wrap, IntKind.bits, IntKind.signed]; omega
          have hzn : z.toNat = (m1 + k) % 256 := by
            rw [hz, UInt8.toNat_add, UInt8.toNat_mul, hm1, UInt8.toNat_ofNat']
            simp
          have d5 : IntKind.u8.wrap ((m1 : Int) + (k : Int)) = (z.toNat : Int) := by simp [IntKind.wrap, IntKind.bits, IntKind.signed]; omega
          have g1 : (q : Int) < 32 := by omega
          have g2 : ¬ (k : Int) < 0 := by omega
          have HW1 := Bx.mk hw1; have HS := Bx.mk hstp; have HGO := Bx.mk hgood
          clear hw hw1 hstp hgood hbad hwk hk hk0 hk1 hrl hz hzn hm1 hy hq
          go_wp2_with fail
          refine (HW1.out _).mono ?_
          rintro e w0 ⟨rfl, rfl⟩
          go_upto_region 7 with (fail)
          go_region_with (go_at_call 44; refine (HW1.out _).mono ?_; rintro e w' ⟨rfl, rfl⟩)
          all_goals (
            clear cq fq d1 d2 d3 d4 d5 g1 g2
            go_wp2_with fail
            go_roundw
            case rel =>
              have hs1 := set_one (q := q) HU2.out (.int .u8 (z.toNat : Int))
              refine ⟨t + 1, hlt, by go_num, HG.out.step hlt (by rw [HSL.out]; omega) (by rw [HGD.out]; exact HGO.out), (hs1.2 _ (by omega)).trans HU0.out, (hs1.2 _ (by omega)).trans HU1.out, ?_, ?_⟩
              · rw [HS.out, ← ocells_setI]; exact hs1.1
              · exact Below.drew (HB.out.setCell (Nat.le_succ_of_le (Nat.le_succ _)) _)
            case measure => simp [intOf]; omega)
    · obtain rfl : t = 64 := by omega
      by_cases hgt : 64 < s.size
      · have hp := placed_any wr 3 64
        have HP := Bx.mk hp; clear hp
        go_wp2_with fail
        refine HP.out.mono ?_
        rintro e w1 ⟨rfl, hb1⟩
        have T := TAIL.out w1 hb1
        clear hb1
        have u2 : (w1.setRow w.heap.size (ocells zero32')).heap[w.heap.size + 1]? = some (.cells #[.int .i64 0, .int .i64 0] 34 (0, 0)) := by
          rw [heap_setRow_other _ _ _ _ (by omega)]
          exact T.out.2.1
        have c0 := er_cellAt u2 0 _ rfl
        have c1 := er_cellAt u2 1 _ rfl
        have f0 := er_frozen u2 0
        have f1 := er_frozen u2 1
        have r1 : (w1.setRow w.heap.size (ocells zero32')).heap[w.heap.size]? = some (.cells (ocells zero32') 24 (0, 0)) := setRow_heap _ _ _ _ _ _ T.out.1
        have b3 : Below w.heap.size w (w1.setRow w.heap.size (ocells zero32')) := below_setRow T.out.2.2 (Nat.le_refl _) _
        have U2 := Bx.mk u2; have B3 := Bx.mk b3; have R1' := Bx.mk r1; clear u2 b3 r1
        go_wp2_with (refine wpList_store_row rfl 24 (.tmp 2) (.tmp 41) rfl w.heap.size (ocells zero32') rfl rfl _ _ T.out.1 (hszL zero32'_length) (hsoL zero32'_length) (ocells_one _) ?_)
        have tw := two_set U2.out (.int .i64 3) (.int .i64 64)
        exact bodyPost_ret (results_two_rows rfl _ _ w.heap.size (w.heap.size + 1) _ _ (ocells zero32') #[.int .i64 3, .int .i64 64] _ _ rfl ((tw.2 _ (by omega)).trans R1'.out) (hszL zero32'_length) rfl tw.1 (by kernel_rfl)) rfl ⟨⟨some 64, ⟨HG.out, .inl ⟨rfl, by rw [HSL.out]; exact hgt⟩⟩, rfl⟩, (B3.out.setCell (Nat.le_succ _) _).setCell (Nat.le_succ _) _⟩
      · have hle : s.size = 64 := by have := (HG.out 63 (by omega)).2.1; rw [HSL.out] at this; omega
        have hle' : ¬ (64 : Int) < (s.size : Int) := by omega
        have hrl := rdN_length (sb s) 64
        have HL := Bx.mk hrl; have HLE := Bx.mk hle
        clear hrl hle
        have u2 : (wr.setRow w.heap.size (ocells (rdN (sb s) 64))).heap[w.heap.size + 1]? = some (.cells #[.int .i64 0, .int .i64 0] 34 (0, 0)) := by
          rw [heap_setRow_other _ _ _ _ (by omega)]
          exact HU1.out
        have c0 := er_cellAt u2 0 _ rfl
        have c1 := er_cellAt u2 1 _ rfl
        have f0 := er_frozen u2 0
        have f1 := er_frozen u2 1
        have b3 : Below w.heap.size w (wr.setRow w.heap.size (ocells (rdN (sb s) 64))) := below_setRow HB.out (Nat.le_refl _) _
        have r1 : (wr.setRow w.heap.size (ocells (rdN (sb s) 64))).heap[w.heap.size]? = some (.cells (ocells (rdN (sb s) 64)) 24 (0, 0)) := setRow_heap _ _ _ _ _ _ HU0.out
        have U2 := Bx.mk u2; have B3 := Bx.mk b3; have R1' := Bx.mk r1; clear u2 b3 r1 TAIL
        go_upto_region 10 with (fail)
        go_wp2_with (first
          | refine wpList_load_row rfl 24 (.tmp 4) rfl (w.heap.size + 1 + 1) rfl _ _ _ _ HU2.out underH rfl (hszL HL.out) ?_
          | refine wpList_store_row rfl 24 (.tmp 2) (.tmp 43) rfl w.heap.size (ocells (rdN (sb s) 64)) rfl rfl _ _ HU0.out (hszL HL.out) (hsoL HL.out) (ocells_one _) ?_)
        have tw := two_set U2.out (.int .i64 0) (.int .i64 0)
        exact bodyPost_ret (results_two_rows rfl _ _ w.heap.size (w.heap.size + 1) _ _ (ocells (rdN (sb s) 64)) #[.int .i64 0, .int .i64 0] _ _ rfl ((tw.2 _ (by omega)).trans R1'.out) (hszL HL.out) rfl tw.1 (by kernel_rfl)) rfl ⟨⟨none, ⟨by rw [HSL.out]; exact HLE.out, HG.out⟩, rfl⟩, (B3.out.setCell (Nat.le_succ _) _).setCell (Nat.le_succ _) _⟩
end Go.Proofs.YtecdaokgnkhgiaaDoor
