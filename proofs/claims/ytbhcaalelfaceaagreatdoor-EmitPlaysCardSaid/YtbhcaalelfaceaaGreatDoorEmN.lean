/- api.Node in memory: built, side by side. -/
import Derived.Test.YtbhcaalelfaceaaGreatDoorFil
import Derived.Test.YtbhcaalelfaceaaGreatDoorOwn8
import Derived.Test.YtbhcaalelfaceaaGreatDoorEmP
import Derived.Test.YtbhcaalelfaceaaGreatDoorNd
import Derived.Test.YtbhcaalelfaceaaGreatDoorVt
import Derived.Lib.SliceRun
namespace Go.Proofs.YtbhcaalelfaceaaGreatDoor
set_option maxRecDepth 100000
open Go.RowKit Go.Lib
/-- a node's cells -/
def ncell (p : Nat × Nat × List UInt8) : Array Value := #[.int .u8 (p.1 : Int), .int .u64 (p.2.1 : Int)] ++ ocells p.2.2
def ncells (l : List (Nat × Nat × List UInt8)) : List Value := l.flatMap fun p => (ncell p).toList
theorem ncells_push (l : List (Nat × Nat × List UInt8)) (p : Nat × Nat × List UInt8) : ncells l ++ (ncell p).toList = ncells (l ++ [p]) := by simp [ncells]
theorem ncell_size {p : Nat × Nat × List UInt8} (h : p.2.2.length = 32) : (ncell p).size = 34 := by unfold ncell; rw [Array.size_append, ocells_size, h]; rfl
theorem ncell_one (p : Nat × Nat × List UInt8) : (ncell p).all (·.oneCell') = true := by unfold ncell; rw [Array.all_append, ocells_one]; simp [Value.oneCell']
theorem ncell_mem (p : Nat × Nat × List UInt8) : ∀ u ∈ (ncell p).toList, u.oneCell' = true := fun u hu => Array.all_eq_true_iff_forall_mem.1 (ncell_one p) u (by simpa using hu)
theorem ncells_length {l : List (Nat × Nat × List UInt8)} (h : ∀ x ∈ l, x.2.2.length = 32) : (ncells l).length = l.length * 34 := by
  induction l with
  | nil => rfl
  | cons x l ih =>
    have h1 := ih fun y hy => h y (List.mem_cons_of_mem _ hy)
    have h2 := ncell_size (h x (List.mem_cons_self))
    unfold ncells at h1 ⊢
    rw [List.flatMap_cons, List.length_append, h1, Array.length_toList, h2, List.length_cons]
    omega
theorem ncells_get {l : List (Nat × Nat × List UInt8)} (h : ∀ x ∈ l, x.2.2.length = 32) (i : Nat) (hi : i < l.length) (j : Nat) (hj : j < 34) : (ncells l)[i * 34 + j]? = (ncell l[i])[j]? := by
  induction l generalizing i with
  | nil => exact absurd hi (Nat.not_lt_zero _)
  | cons x l ih =>
    have h2 := ncell_size (h x (List.mem_cons_self))
    unfold ncells
    rw [List.flatMap_cons]
    cases i with
    | zero =>
      rw [List.getElem?_append_left (by rw [Array.length_toList]; omega)]
      simp
    | succ i =>
      rw [List.getElem?_append_right (by rw [Array.length_toList]; omega), Array.length_toList, h2, show (i + 1) * 34 + j - 34 = i * 34 + j by omega]
      exact ih (fun y hy => h y (List.mem_cons_of_mem _ hy)) i (by simpa using hi)
theorem underNd : Tryz.prog.underlying 130 = some (.struct (Tryz.prog.fieldsOf 130)) := by kernel_rfl
theorem underNs : Tryz.prog.underlying 83 = some (.slice 130) := by kernel_rfl
theorem vcellsNd : Tryz.prog.cellsOf 130 = 34 := by kernel_rfl
def zerosN : Array Value := #[.int .u8 0, .int .u64 0] ++ zeros32
theorem infoNz : (Tryz.prog.info? 130).map (fun i => (i.zero, i.size, i.bytes)) = some (some (.agg zerosN), 34, 48) := by kernel_rfl
theorem placesN : (Tryz.prog.fieldsOf 130).toList.mapM (fun f => (Tryz.prog.info? f.type).map fun i => (f.offset, i.size)) = some [(0, 2), (2, 32)] := by kernel_rfl
theorem built_coord (a b : Int) : Tryz.prog.built 119 [(0, .int .u8 a), (1, .int .u64 b)] = some #[.int .u8 a, .int .u64 b] := by kernel_rfl
theorem built_coord1 (b : Int) : Tryz.prog.built 119 [(1, .int .u64 b)] = some #[.int .u8 0, .int .u64 b] := by kernel_rfl
theorem built_node (a b : Int) (h : List UInt8) (hh : h.length = 32) : Tryz.prog.built 130 [(0, .agg #[.int .u8 a, .int .u64 b]), (1, .agg (ocells h))] = some (#[.int .u8 a, .int .u64 b] ++ ocells h) := by
  obtain ⟨i, hi, hz, _, _⟩ := info_parts infoNz
  unfold Program.built
  rw [hi, underNd]
  simp only [hz, placesN]
  have bl : ∀ l : List UInt8, (bcells l).length = l.length := bcells_length
  have hZ : (Value.agg zerosN).cells = ([] ++ zerosN.toList).toArray := by simp [Value.cells]
  have hZl : zerosN.toList.length = 34 := by rfl
  rw [hZ, fill_put _ [] zerosN.toList 0 2 _ [.int .u8 a, .int .u64 b] _ rfl rfl rfl (by rw [hZl]; decide)]
  rw [fill_put _ _ _ 1 32 _ (bcells h) _ rfl rfl (by rw [bl, hh]) (by rw [List.length_drop, hZl]; decide)]
  rw [Instr.fill]
  congr 1
  apply Array.ext'
  rw [List.drop_drop, List.drop_of_length_le (by rw [hZl]; decide)]
  simp [ocells]
theorem bs_node (w : World) (Z : Array Value) (hZ : Z.size = 34) : (Instr.buildSlice 83 1 #[(0, .agg Z)]).run Tryz.prog w = .ok (.slice (some ⟨w.heap.size, 0, none⟩) 1 1) (w.alloc (.cells Z 130)) := by
  obtain ⟨i, hi, hz, hs, _⟩ := info_parts infoNz
  refine run_buildSlice w _ _ 1 _ Z i _ underNs hi hz (by rw [hs]; decide) (by rw [hs]; decide) ?_
  rw [hs]
  exact fill_one _ _ (by simp) rfl _ hZ
theorem run_bs_node {o : Oper} {a : Act} (w : World) (x : Operand) (ho : o.op = .buildSlice 83 1 #[(0, x)]) (Z : Array Value) (hZ : Z.size = 34) (hx : a.eval x = .agg Z) :
    (execOp a.eval o).run Tryz.prog w = .ok (.value (.slice (some ⟨w.heap.size, 0, none⟩) 1 1)) (w.alloc (.cells Z 130)) := by
  have hr := bs_node w Z hZ
  unfold execOp
  simp only [ho, List.map_toArray, List.map_cons, List.map_nil, hx, Sem.run_bind, hr, Result.andThen_ok, Sem.run_pure]
/-- the hashes that become whole, from below -/
def hkB (ls : List (List UInt8)) (h : List UInt8) : Nat → List UInt8
  | 0 => h
  | k + 1 => nd (ls.getD (ls.length - 1 - k) []) (hkB ls h k)
theorem hkB_length {ls : List (List UInt8)} {h : List UInt8} (hh : h.length = 32) : ∀ k, (hkB ls h k).length = 32
  | 0 => hh
  | _ + 1 => nd_length _ _
/-- the nodes that a leaf makes whole -/
def nodesB (n : Nat) (ls : List (List UInt8)) (h : List UInt8) (t : Nat) : List (Nat × Nat × List UInt8) := (List.range t).map fun k => (k, n / 2 ^ k, hkB ls h k)
theorem nodesB_succ (n : Nat) (ls : List (List UInt8)) (h : List UInt8) (t : Nat) : nodesB n ls h (t + 1) = nodesB n ls h t ++ [(t, n / 2 ^ t, hkB ls h t)] := by unfold nodesB; rw [List.range_succ, List.map_append]; rfl
theorem nodesB_length (n : Nat) (ls : List (List UInt8)) (h : List UInt8) (t : Nat) : (nodesB n ls h t).length = t := by unfold nodesB; simp
theorem nodesB_mem {n : Nat} {ls : List (List UInt8)} {h : List UInt8} (hh : h.length = 32) (t : Nat) : ∀ x ∈ nodesB n ls h t, x.2.2.length = 32 := by
  intro x hx
  unfold nodesB at hx
  obtain ⟨k, _, rfl⟩ := List.mem_map.1 hx
  exact hkB_length hh k
/-- the hashes behind it -/
def lsB (n : Nat) (ls : List (List UInt8)) (h : List UInt8) : List (List UInt8) := ls.take (ls.length - tones n) ++ [hkB ls h (tones n)]
theorem lsB_length {n : Nat} {ls : List (List UInt8)} (h : List UInt8) (hl : ls.length = pcnt n) (hn : n + 1 < 18446744073709551616) : (lsB n ls h).length = pcnt (n + 1) := by
  have h1 := pcnt_succ hn
  have h2 := tones_le n
  unfold lsB
  rw [List.length_append, List.length_take]
  simp
  omega
theorem lsB_mem {n : Nat} {ls : List (List UInt8)} {h : List UInt8} (hh : h.length = 32) (hl : ∀ x ∈ ls, x.length = 32) : ∀ x ∈ lsB n ls h, x.length = 32 := by
  intro x hx
  unfold lsB at hx
  rcases List.mem_append.1 hx with h1 | h1
  · exact hl x (List.mem_of_mem_take h1)
  · obtain rfl : x = _ := by simpa using h1
    exact hkB_length hh _
/-- elements of 32 cells are cleared -/
theorem clear_rows (w : World) (ty : TypeId) (b o m c : Nat) (hm : 0 < m) (hc : ∀ j, j < m * 32 → (w.cell? ⟨b, o + j, none⟩).isSome = true) (hf : ∀ j, j < m * 32 → w.frozen? ⟨b, o + j, none⟩ = false) :
    (Builtin.clear_ #[51] ty #[.slice (some ⟨b, o, none⟩) m c]).run Tryz.prog w = .ok (.tuple #[]) (w.setCells b o (List.replicate (m * 32) (.int .u8 0))) := by
  have hz : ∀ w, (zeroValue 66).run Tryz.prog w = .ok (.agg zeros32) w := Tryz.zeroValue66
  have hzc : (Builtin.zeroCells (Value.agg zeros32).cells m).toList = List.replicate (m * 32) (.int .u8 0) := by
    have e : (Value.agg zeros32).cells = zeros32 := rfl
    rw [e]
    have es : zeros32.size = 32 := rfl
    apply List.ext_getElem
    · simp [Builtin.zeroCells, es]
    · intro i h1 h2
      have hk : ∀ k, k < 32 → zeros32[k]! = Value.int .u8 0 := by
        intro k hk
        have h0 : zeros32 = Array.replicate 32 (Value.int .u8 0) := rfl
        rw [h0, getElem!_pos _ k (by simpa using hk)]
        simp
      simp [Builtin.zeroCells, es, hk _ (Nat.mod_lt _ (by decide))]
  have hst := run_storeCells_cells (P := Tryz.prog) b o (List.replicate (m * 32) (.int .u8 0)) 0 w (by simpa using hc) (by simpa using hf) (by intro v hv'; rw [List.eq_of_mem_replicate hv']; rfl)
  simp only [Nat.add_zero] at hst
  obtain ⟨m', rfl⟩ : ∃ k, m = k + 1 := ⟨m - 1, by omega⟩
  simp [Builtin.clear_, run_underlying underHs, hz, hzc, hst]
end Go.Proofs.YtbhcaalelfaceaaGreatDoor
