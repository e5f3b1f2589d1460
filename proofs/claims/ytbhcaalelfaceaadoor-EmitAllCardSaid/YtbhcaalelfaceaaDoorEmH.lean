/- emit: what the laws of the chapter need besides: two nodes built in a slice, rows of unlike kinds lie apart, what a law keeps of the world. -/
import Derived.Test.YtbhcaalelfaceaaDoorEmD
import Derived.Test.YtbhcaalelfaceaaDoorEmC
import Derived.Test.YtbhcaalelfaceaaDoorEmR
import Derived.Test.YtbhcaalelfaceaaDoorEmT
import Derived.Test.YtbhcaalelfaceaaDoorEmF
import Derived.Test.YtbhcaalelfaceaaDoorSeq8
namespace Go.Proofs.YtbhcaalelfaceaaDoor
set_option maxRecDepth 100000
open Go.RowKit
/-- what a law of chapter 10 keeps of the world -/
structure Em (A : Nat → Addr) (w : World) : Prop where
  hs : Hs A w
  tz : TabZ w
  lt : 4 < w.heap.size
theorem Em.below {A : Nat → Addr} {w w' : World} (h : Em A w) (k : Below w.heap.size w w') : Em A w' := ⟨h.hs.below k, h.tz.below h.lt k, Nat.lt_of_lt_of_le h.lt k.size⟩
theorem fill_twoN {n : Nat} (pl : Nat → Option (Nat × Nat)) (Z : Array Value) (hZ : Z.size = n + n) (h0 : pl 0 = some (0, n)) (h1 : pl 1 = some (n, n)) (X Y : Array Value) (sa : X.size = n) (sb : Y.size = n) : Instr.fill pl Z [(0, .agg X), (1, .agg Y)] = some (X ++ Y) := by
  have e : Z = ([] ++ Z.toList).toArray := by simp
  rw [e, fill_put pl [] Z.toList 0 n (.agg X) X.toList _ h0 (by simp [Value.cells]) (by simpa using sa) (by rw [Array.length_toList]; omega)]
  rw [fill_put pl ([] ++ X.toList) (Z.toList.drop n) 1 n (.agg Y) Y.toList _ (by rw [h1]; simp [sa]) (by simp [Value.cells]) (by simpa using sb) (by rw [List.length_drop, Array.length_toList]; omega)]
  rw [Instr.fill]
  congr 1
  apply Array.ext'
  rw [List.drop_drop, List.drop_of_length_le (by rw [Array.length_toList]; omega)]
  simp
theorem bs_node2 (w : World) (Y Z : Array Value) (hY : Y.size = 34) (hZ : Z.size = 34) : (Instr.buildSlice 27 2 #[(0, .agg Y), (1, .agg Z)]).run Tryd.prog w = .ok (.slice (some ⟨w.heap.size, 0, none⟩) 2 2) (w.alloc (.cells (Y ++ Z) 54)) := by
  obtain ⟨i, hi, hz, hs, _⟩ := info_parts infoNz
  refine run_buildSlice w _ _ 2 _ (Y ++ Z) i _ underNs hi hz (by rw [hs]; decide) (by rw [hs]; decide) ?_
  rw [hs]
  exact fill_twoN _ _ (by simp) rfl rfl _ _ hY hZ
theorem run_bs_node2 {o : Oper} {a : Act} (w : World) (x y : Operand) (ho : o.op = .buildSlice 27 2 #[(0, x), (1, y)]) (Y Z : Array Value) (hY : Y.size = 34) (hZ : Z.size = 34) (hx : a.eval x = .agg Y) (hy : a.eval y = .agg Z) :
    (execOp a.eval o).run Tryd.prog w = .ok (.value (.slice (some ⟨w.heap.size, 0, none⟩) 2 2)) (w.alloc (.cells (Y ++ Z) 54)) := by
  have hr := bs_node2 w Y Z hY hZ
  unfold execOp
  simp only [ho, List.map_toArray, List.map_cons, List.map_nil, hx, hy, Sem.run_bind, hr, Result.andThen_ok, Sem.run_pure]
theorem built_coord0 (a : Int) : Tryd.prog.built 52 [(0, .int .u8 a)] = some #[.int .u8 a, .int .u64 0] := by kernel_rfl
theorem built_node1 (h : List UInt8) (hh : h.length = 32) : Tryd.prog.built 54 [(1, .agg (ocells h))] = some (ncell (0, 0, h)) := by
  obtain ⟨i, hi, hz, _, _⟩ := info_parts infoNz
  unfold Program.built
  rw [hi, underNd]
  simp only [hz, placesN]
  have bl : ∀ l : List UInt8, (bcells l).length = l.length := bcells_length
  have hZ : (Value.agg zerosN).cells = (([.int .u8 0, .int .u64 0] : List Value) ++ zeros32.toList).toArray := by simp [Value.cells, zerosN]
  have hZl : zeros32.toList.length = 32 := by rfl
  rw [hZ, fill_put _ [.int .u8 0, .int .u64 0] zeros32.toList 1 32 _ (bcells h) _ rfl rfl (by rw [bl, hh]) (by rw [hZl]; decide)]
  rw [Instr.fill]
  congr 1
  apply Array.ext'
  rw [List.drop_of_length_le (by rw [hZl]; decide)]
  simp [ncell, ocells]
theorem built_zeroH : Tryd.prog.built 33 [] = some (ocells zero32') := by kernel_rfl
/-- a slice that was built reads as its nodes -/
theorem nss_built {own : Nat → Option Nat} {w : World} {v : Value} {n : Nat} {X : Array Value} {ps : List (Nat × Nat × List UInt8)} (h : BuiltV own w v n 54 X) (hX : X.toList = ncells ps) (hl : ∀ x ∈ ps, x.2.2.length = 32) (hn : n = ps.length) (hm : n ≤ 1024) : ∃ g, v = .slice (some ⟨g, 0, none⟩) n n ∧ Nss w (.slice (some ⟨g, 0, none⟩) n n) ps := by
  obtain ⟨g, rfl, _, hg⟩ := h
  have hs : X.size = n * 34 := by rw [← Array.length_toList, hX, ncells_length hl, hn]
  have hr := row_of_built (base := 0) hg (Nat.zero_le _) hs (by unfold maxLen; omega)
  rw [hX] at hr
  exact ⟨g, rfl, nss_own hr hl hn⟩
/-- rows of unlike kinds lie apart -/
theorem own_apart {w : World} {b1 b2 s1 s2 n1 n2 : Nat} {e1 e2 : TypeId} {v1 v2 : Value} {x1 x2 : List Value} (h1 : w.ownsRow b1 e1 s1 v1 n1 x1) (h2 : w.ownsRow b2 e2 s2 v2 n2 x2) (hne : e1 ≠ e2) (k : Nat) (hk : v1.ownBlock = some k) : v2.ownBlock ≠ some k := by
  intro hk2
  rcases h1.2 with ⟨rfl, _⟩ | ⟨g, cap, cur, rfl, _, hg, _⟩
  · cases hk
  · cases hk
    rcases h2.2 with ⟨rfl, _⟩ | ⟨g2, cap2, cur2, rfl, _, hg2, _⟩
    · cases hk2
    · cases hk2
      rw [hg] at hg2
      cases hg2
      exact hne rfl
theorem own_ne_block {w : World} {b1 s1 n1 b : Nat} {e1 T : TypeId} {v1 : Value} {x1 : List Value} {c : Array Value} {fr : Nat × Nat} (h1 : w.ownsRow b1 e1 s1 v1 n1 x1) (h2 : w.heap[b]? = some (.cells c T fr)) (hne : e1 ≠ T) (k : Nat) (hk : v1.ownBlock = some k) : k ≠ b := by
  rintro rfl
  rcases h1.2 with ⟨rfl, _⟩ | ⟨g, cap, cur, rfl, _, hg, _⟩
  · cases hk
  · cases hk
    rw [hg] at h2
    cases h2
    exact hne rfl
/-- a row of nodes apart from a builder -/
theorem BuP.apartN {base : Nat} {w : World} {b n : Nat} {ls : List (List UInt8)} {s : Value} (h : BuP base w b n ls s) {b1 m : Nat} {v : Value} {x : List Value} (hv : w.ownsRow b1 54 34 v m x) (k : Nat) (hk : v.ownBlock = some k) : ¬ BuS b s k := by
  rintro (h0 | h0)
  · exact own_ne_block hv h.hb (by decide) k hk h0
  · exact own_apart hv h.own (by decide) k hk h0
theorem BuP.below0 {base : Nat} {w w' : World} {b n : Nat} {ls : List (List UInt8)} {s : Value} (h : BuP base w b n ls s) (k : Keep (BuS b s) w w') (hb : base ≤ w.heap.size) : Below base w w' := k.below hb (fun j hj => h.ge j hj)
end Go.Proofs.YtbhcaalelfaceaaDoor
