/- cartularyref05.Chain. -/
import Derived.Test.YtecdaokgnkhgiaaDoorHf
import Derived.Test.YtecdaokgnkhgiaaDoorErrD
namespace Go.Proofs.YtecdaokgnkhgiaaDoor
set_option maxRecDepth 100000
open Go.RowKit
/-- cartularyref02.Plain -/
theorem plain_any (w : World) (c : Int) (hc : c ≠ 0) : Calls Tryd.prog 37 #[.int .i64 c] w fun e w' => e = .returned (.agg #[.int .i64 c, .int .i64 (-1)]) ∧ Below w.heap.size w w' := by
  have hc' : (c == 0) = false := by simpa using hc
  clear hc
  go_enter Tryd.func37, Tryd.ntmps37
  go_wp2_with fail
  exact bodyPost_ret (results_cell_row rfl _ _ w.heap.size _ #[.int .i64 c, .int .i64 (-1)] _ _ rfl (heap_alloc_new _ _) Tryd.underlying34 rfl (by kernel_rfl)) rfl ⟨rfl, er_al (Below.refl _ _) _⟩
theorem results_two_rows {fn : Func} {p u : Tmp} (h : fn.results = #[.cell p 24, .cell u 34]) (tmps : Array Value) (w : World) (g g2 : Nat) (t t2 : TypeId) (cs cs2 : Array Value) (fr fr2 : Nat × Nat)
    (hp : tmps.getD p undef = .pointer (some ⟨g, 0, none⟩)) (hg : w.heap[g]? = some (.cells cs t fr)) (hi : (Tryd.prog.info? 24).map (·.size) = some cs.size)
    (hp2 : tmps.getD u undef = .pointer (some ⟨g2, 0, none⟩)) (hg2 : w.heap[g2]? = some (.cells cs2 t2 fr2)) (hi2 : (Tryd.prog.info? 34).map (·.size) = some cs2.size) :
    (results fn tmps).run Tryd.prog w = .ok (.tuple #[.agg cs, .agg cs2]) w := by
  have hl := run_loadVar_row (P := Tryd.prog) w g t 24 cs fr _ hg underH rfl hi
  have hl2 := run_loadVar_row (P := Tryd.prog) w g2 t2 34 cs2 fr2 _ hg2 Tryd.underlying34 rfl hi2
  have hp' : tmps[p]?.getD undef = .pointer (some ⟨g, 0, none⟩) := by simpa using hp
  have hp2' : tmps[u]?.getD undef = .pointer (some ⟨g2, 0, none⟩) := by simpa using hp2
  simp [results, h, hp', hp2', asAddr, hl, hl2, Sem.run_bind, Result.andThen]
theorem er_frozen {w : World} {g : Nat} {cs : Array Value} {T : TypeId} (h : w.heap[g]? = some (.cells cs T (0, 0))) (j : Nat) : w.frozen? ⟨g, j, none⟩ = false := by
  simp [World.frozen?, h]
theorem two_set {X : World} {n : Nat} {u v : Value} {T : TypeId} (h : X.heap[n]? = some (.cells #[u, v] T (0, 0))) (a b : Value) :
    ((X.setCell ⟨n, 0, none⟩ a).setCell ⟨n, 1, none⟩ b).heap[n]? = some (.cells #[a, b] T (0, 0)) ∧ ∀ k, k ≠ n → ((X.setCell ⟨n, 0, none⟩ a).setCell ⟨n, 1, none⟩ b).heap[k]? = X.heap[k]? := by
  constructor
  · simp [World.setCell, Array.getElem?_modify, h]
  · intro k hk
    simp [World.setCell, Array.getElem?_modify, Ne.symm hk]
def fz : Array Value := #[.int .i64 0, .int .i64 0]
set_option maxHeartbeats 3200000 in
theorem rchain_any (w : World) (h : List UInt8) (hh : h.length = 32) (n : Nat) (hn : n ≤ 255) :
    Calls Tryd.prog 19 #[hv h, .int .i64 (n : Int)] w fun e w' => e = .returned (.tuple #[hv (chainN h n), .agg #[.int .i64 0, .int .i64 0]]) ∧ Below w.heap.size w w' := by
  have x0 := ((HashAt.new w h hh).below (er_al (Below.refl _ _) (.cells zeros32 24))).below (er_al (Below.refl _ _) (.cells fz 34))
  have x1 : (((w.alloc (.cells (ocells h) 24)).alloc (.cells zeros32 24)).alloc (.cells fz 34)).heap[w.heap.size + 1]? = some (.cells zeros32 24 (0, 0)) := by
    rw [Below.heap_alloc _ _ _ (by simp)]; simpa using heap_alloc_new (w.alloc (.cells (ocells h) 24)) (.cells zeros32 24)
  have x2 : (((w.alloc (.cells (ocells h) 24)).alloc (.cells zeros32 24)).alloc (.cells fz 34)).heap[w.heap.size + 1 + 1]? = some (.cells fz 34 (0, 0)) := by
    simpa using heap_alloc_new ((w.alloc (.cells (ocells h) 24)).alloc (.cells zeros32 24)) (.cells fz 34)
  have kb : Below w.heap.size w (((w.alloc (.cells (ocells h) 24)).alloc (.cells zeros32 24)).alloc (.cells fz 34)) := er_al (er_al (er_al (Below.refl _ _) _) _) _
  unfold hv
  go_enter Tryd.func19, Tryd.ntmps19
  go_upto_region 1 with (fail)
  change Code.wp _ _ _ _ (((w.alloc (.cells (ocells h) 24)).alloc (.cells zeros32 24)).alloc (.cells fz 34))
  generalize ((w.alloc (.cells (ocells h) 24)).alloc (.cells zeros32 24)).alloc (.cells fz 34) = W at x0 x1 x2 kb ⊢
  have X0 := Bx.mk x0.1; have X1 := Bx.mk x1; have X2 := Bx.mk x2; have KB := Bx.mk kb; have HH := Bx.mk hh
  clear x0 x1 x2 kb hh
  have hn1 : ¬ (n : Int) < 0 := by omega
  have hn2 : ¬ (255 : Int) < (n : Int) := by omega
  go_wp2_with fail
  go_loopw [6] (fun i wr => ∃ t : Nat, t ≤ n ∧ i = .int .i64 (t : Int) ∧ wr.heap[w.heap.size]? = some (.cells (ocells (chainN h t)) 24 (0, 0)) ∧ wr.heap[w.heap.size + 1]? = some (.cells zeros32 24 (0, 0)) ∧ wr.heap[w.heap.size + 1 + 1]? = some (.cells fz 34 (0, 0)) ∧ Below w.heap.size w wr) (fun i _ => n - (intOf i).toNat)
  case atStart => exact ⟨0, Nat.zero_le _, rfl, X0.out, X1.out, X2.out, KB.out⟩
  case round =>
    obtain ⟨t, ht, rfl, hu0, hu1, hu2, hb⟩ := hrel
    have hlen := chainN_length HH.out t
    have HL := Bx.mk hlen; have HU0 := Bx.mk hu0; have HU1 := Bx.mk hu1; have HU2 := Bx.mk hu2; have HB := Bx.mk hb
    clear hlen hu0 hu1 hu2 hb
    by_cases hlt : t < n
    · have c1 := rbytes_any wr (chainN h t) HL.out
      rw [hv_agg] at c1
      have c2 := fun u => rsum_any u (⟨#[2]⟩ ++ bstr (chainN h t)) (by rw [ByteArray.size_append, bstr_size, HL.out]; decide)
      rw [sb_app, sb_bstr, show sb ⟨#[2]⟩ ++ chainN h t = 2 :: chainN h t from rfl] at c2
      have ha := fun u => run_string_add_sum (P := Tryd.prog) u ⟨#[2]⟩ (bstr (chainN h t)) (by rw [bstr_size, HL.out]; decide)
      have C1 := Bx.mk c1; have C2 := Bx.mk c2; clear c1 c2
      go_wp2_with (refine wpList_load_row rfl 24 (.tmp 2) rfl w.heap.size rfl _ _ _ _ HU0.out underH rfl (hszL HL.out) ?_)
      refine C1.out.mono ?_
      rintro e w1 ⟨rfl, hb1⟩
      have B1 := Bx.mk hb1; clear hb1
      go_wp2_with fail
      refine (C2.out w1).mono ?_
      rintro e w4 ⟨rfl, hb4⟩
      have l0 := (Array.getElem?_eq_some_iff.1 HU0.out).1
      have l1 := (Array.getElem?_eq_some_iff.1 HU1.out).1
      have l2 := (Array.getElem?_eq_some_iff.1 HU2.out).1
      have b4 := B1.out.trans (hb4.mono B1.out.size)
      have q0 := (b4.block _ l0).trans HU0.out
      have q1 := (b4.block _ l1).trans HU1.out
      have q3 := (b4.block _ l2).trans HU2.out
      have q2 : Below w.heap.size w w4 := HB.out.trans (b4.mono HB.out.size)
      have hso : (ocells (chainN h t)).size = (ocells (sha (2 :: chainN h t))).size := by rw [ocells_size, ocells_size, HL.out, sha_length]
      have Q0 := Bx.mk q0; have Q1 := Bx.mk q1; have Q3 := Bx.mk q3; have Q2 := Bx.mk q2; have HSZ := Bx.mk (hszL (sha_length (2 :: chainN h t))); have HSO := Bx.mk hso
      clear hb4 b4 q0 q1 q2 q3 l0 l1 l2 hso ha
      go_wp2_with (refine wpList_store_row rfl 24 (.tmp 2) (.tmp 23) rfl w.heap.size (ocells (sha (2 :: chainN h t))) rfl rfl _ _ Q0.out HSZ.out HSO.out (ocells_one _) ?_)
      go_roundw
      case rel =>
        refine ⟨t + 1, hlt, by go_num, setRow_heap _ _ _ _ _ _ Q0.out, ?_, ?_, below_setRow Q2.out (Nat.le_refl _) _⟩
        · rw [heap_setRow_other _ _ _ _ (by omega)]
          exact Q1.out
        · rw [heap_setRow_other _ _ _ _ (by omega)]
          exact Q3.out
      case measure => simp [intOf]; omega
    · obtain rfl : t = n := by omega
      have HSZ := Bx.mk (hszL HL.out); have HSO := Bx.mk (hsoL HL.out)
      have u2 : (wr.setRow (w.heap.size + 1) (ocells (chainN h t))).heap[w.heap.size + 1 + 1]? = some (.cells #[.int .i64 0, .int .i64 0] 34 (0, 0)) := by
        rw [heap_setRow_other _ _ _ _ (by omega)]
        exact HU2.out
      have c0 := er_cellAt u2 0 _ rfl
      have c1 := er_cellAt u2 1 _ rfl
      have f0 := er_frozen u2 0
      have f1 := er_frozen u2 1
      have b3 : Below w.heap.size w (wr.setRow (w.heap.size + 1) (ocells (chainN h t))) := below_setRow HB.out (by omega) _
      have r1 : (wr.setRow (w.heap.size + 1) (ocells (chainN h t))).heap[w.heap.size + 1]? = some (.cells (ocells (chainN h t)) 24 (0, 0)) := setRow_heap _ _ _ _ _ _ HU1.out
      have U2 := Bx.mk u2; have B3 := Bx.mk b3; have R1' := Bx.mk r1; clear u2 b3 r1
      go_upto_region 7 with (fail)
      go_wp2_with (first
        | refine wpList_load_row rfl 24 (.tmp 2) rfl w.heap.size rfl _ _ _ _ HU0.out underH rfl HSZ.out ?_
        | refine wpList_store_row rfl 24 (.tmp 4) (.tmp 24) rfl (w.heap.size + 1) (ocells (chainN h t)) rfl rfl _ _ HU1.out HSZ.out HSO.out (ocells_one _) ?_)
      have tw := two_set U2.out (.int .i64 0) (.int .i64 0)
      exact bodyPost_ret (results_two_rows rfl _ _ (w.heap.size + 1) (w.heap.size + 1 + 1) _ _ (ocells (chainN h t)) #[.int .i64 0, .int .i64 0] _ _ rfl ((tw.2 _ (by omega)).trans R1'.out) HSZ.out rfl tw.1 (by kernel_rfl)) rfl ⟨rfl, (B3.out.setCell (by simp; omega) _).setCell (by simp; omega) _⟩
end Go.Proofs.YtecdaokgnkhgiaaDoor
