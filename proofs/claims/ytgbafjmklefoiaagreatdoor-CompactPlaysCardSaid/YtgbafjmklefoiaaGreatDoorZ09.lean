/- api.Node in memory: built, side by side. cartularylaw01.SameNodes. -/
import Derived.Test.YtgbafjmklefoiaaGreatDoorZ08
import Derived.Test.YtgbafjmklefoiaaGreatDoorZ07
import Derived.Test.YtgbafjmklefoiaaGreatDoorZ05
import Derived.Lib.SliceRun
import Derived.Laws.StructEq
import Derived.ChangeKeysEq
section
namespace Go.Proofs.YtgbafjmklefoiaaGreatDoor
set_option maxRecDepth 100000
open Go.RowKit Go.Lib
/-- a node's cells -/
def ncell (p : Nat × Nat × List UInt8) : Array Value := #[.int .u8 (p.1 : Int), .int .u64 (p.2.1 : Int)] ++ ocells p.2.2
def ncells (l : List (Nat × Nat × List UInt8)) : List Value := l.flatMap fun p => (ncell p).toList
theorem ncells_push (l : List (Nat × Nat × List UInt8)) (p : Nat × Nat × List UInt8) : ncells l ++ (ncell p).toList = ncells (l ++ [p]) := by simp [ncells]
theorem ncell_size {p : Nat × Nat × List UInt8} (h : p.2.2.length = 32) : (ncell p).size = 34 := by unfold ncell; rw [Array.size_append, ocells_size, h]; rfl
theorem ncell_one (p : Nat × Nat × List UInt8) : (ncell p).all (·.oneCell') = true := by unfold ncell; rw [Array.all_append, ocells_one]; simp [Value.oneCell']
theorem ncells_length {l : List (Nat × Nat × List UInt8)} (h : ∀ x ∈ l, x.2.2.length = 32) : (ncells l).length = l.length * 34 := by
  induction l with
  | nil => rfl
  | cons x l ih =>
    have h1 := ih fun y hy => h y (List.mem_cons_of_mem _ hy)
    have h2 := ncell_size (h x (List.mem_cons_self))
    unfold ncells at h1 ⊢
    rw [List.flatMap_cons, List.length_append, h1, Array.length_toList, h2, List.length_cons]
    omega
theorem ncells_get {l : List (Nat × Nat × List UInt8)} (h : ∀ x ∈ l, x.2.2.length = 32) (i : Nat) (hi : i < l.length) (j : Nat) (hj : j < 34) : (ncells l)[i * 34 + j]? = (ncell l[i])[j]? := by
  induction l generalizing i with
  | nil => exact absurd hi (Nat.not_lt_zero _)
  | cons x l ih =>
    have h2 := ncell_size (h x (List.mem_cons_self))
    unfold ncells
    rw [List.flatMap_cons]
    cases i with
    | zero =>
      rw [List.getElem?_append_left (by rw [Array.length_toList]; omega)]
      simp
    | succ i =>
      rw [List.getElem?_append_right (by rw [Array.length_toList]; omega), Array.length_toList, h2, show (i + 1) * 34 + j - 34 = i * 34 + j by omega]
      exact ih (fun y hy => h y (List.mem_cons_of_mem _ hy)) i (by simpa using hi)
theorem underNd : Tryz.prog.underlying 105 = some (.struct (Tryz.prog.fieldsOf 105)) := by kernel_rfl
theorem underNs : Tryz.prog.underlying 63 = some (.slice 105) := by kernel_rfl
def zerosN : Array Value := #[.int .u8 0, .int .u64 0] ++ zeros32
theorem infoNz : (Tryz.prog.info? 105).map (fun i => (i.zero, i.size, i.bytes)) = some (some (.agg zerosN), 34, 48) := by kernel_rfl
theorem placesN : (Tryz.prog.fieldsOf 105).toList.mapM (fun f => (Tryz.prog.info? f.type).map fun i => (f.offset, i.size)) = some [(0, 2), (2, 32)] := by kernel_rfl
theorem built_coord1 (b : Int) : Tryz.prog.built 103 [(1, .int .u64 b)] = some #[.int .u8 0, .int .u64 b] := by kernel_rfl
theorem built_node (a b : Int) (h : List UInt8) (hh : h.length = 32) : Tryz.prog.built 105 [(0, .agg #[.int .u8 a, .int .u64 b]), (1, .agg (ocells h))] = some (#[.int .u8 a, .int .u64 b] ++ ocells h) := by
  obtain ⟨i, hi, hz, _, _⟩ := info_parts infoNz
  unfold Program.built
  rw [hi, underNd]
  simp only [hz, placesN]
  have bl : ∀ l : List UInt8, (bcells l).length = l.length := bcells_length
  have hZ : (Value.agg zerosN).cells = ([] ++ zerosN.toList).toArray := by simp [Value.cells]
  have hZl : zerosN.toList.length = 34 := by rfl
  rw [hZ, fill_put _ [] zerosN.toList 0 2 _ [.int .u8 a, .int .u64 b] _ rfl rfl rfl (by rw [hZl]; decide)]
  rw [fill_put _ _ _ 1 32 _ (bcells h) _ rfl rfl (by rw [bl, hh]) (by rw [List.length_drop, hZl]; decide)]
  rw [Instr.fill]
  congr 1
  apply Array.ext'
  rw [List.drop_drop, List.drop_of_length_le (by rw [hZl]; decide)]
  simp [ocells]
theorem bs_node (w : World) (Z : Array Value) (hZ : Z.size = 34) : (Instr.buildSlice 63 1 #[(0, .agg Z)]).run Tryz.prog w = .ok (.slice (some ⟨w.heap.size, 0, none⟩) 1 1) (w.alloc (.cells Z 105)) := by
  obtain ⟨i, hi, hz, hs, _⟩ := info_parts infoNz
  refine run_buildSlice w _ _ 1 _ Z i _ underNs hi hz (by rw [hs]; decide) (by rw [hs]; decide) ?_
  rw [hs]
  exact fill_one _ _ (by simp) rfl _ hZ
theorem run_bs_node {o : Oper} {a : Act} (w : World) (x : Operand) (ho : o.op = .buildSlice 63 1 #[(0, x)]) (Z : Array Value) (hZ : Z.size = 34) (hx : a.eval x = .agg Z) :
    (execOp a.eval o).run Tryz.prog w = .ok (.value (.slice (some ⟨w.heap.size, 0, none⟩) 1 1)) (w.alloc (.cells Z 105)) := by
  have hr := bs_node w Z hZ
  unfold execOp
  simp only [ho, List.map_toArray, List.map_cons, List.map_nil, hx, Sem.run_bind, hr, Result.andThen_ok, Sem.run_pure]
end Go.Proofs.YtgbafjmklefoiaaGreatDoor
end
section
namespace Go.Proofs.YtgbafjmklefoiaaGreatDoor
set_option maxRecDepth 100000
open Go.RowKit
theorem nszB {p : Nat × Nat × List UInt8} (h : p.2.2.length = 32) : (Tryz.prog.info? 105).map (·.size) = some (ncell p).toList.length := by
  rw [Array.length_toList, ncell_size h]; kernel_rfl
/-- nodes in memory -/
def Nss (w : World) (v : Value) (hs : List (Nat × Nat × List UInt8)) : Prop :=
  (∀ h ∈ hs, h.2.2.length = 32) ∧ ∃ (a : Option Addr) (cap : Nat), v = .slice a hs.length cap ∧ hs.length ≤ cap ∧ cap ≤ maxLen ∧
    (hs ≠ [] → ∃ B off, a = some ⟨B, off, none⟩ ∧ B < w.heap.size ∧ ∀ i, (h : i < hs.length) → w.rangeAt B (off + i * 34) (ncell hs[i]).toList)
theorem Nss.below {w w' : World} {v : Value} {hs : List (Nat × Nat × List UInt8)} (h : Nss w v hs) (k : Below w.heap.size w w') : Nss w' v hs := by
  obtain ⟨h0, a, cap, h1, h2, h3, h4⟩ := h
  refine ⟨h0, a, cap, h1, h2, h3, fun hne => ?_⟩
  obtain ⟨B, off, e1, e2, e3⟩ := h4 hne
  exact ⟨B, off, e1, Nat.lt_of_lt_of_le e2 k.size, fun i hi => rangeAt_below (e3 i hi) e2 k⟩
theorem Nss.len {w : World} {v : Value} {hs : List (Nat × Nat × List UInt8)} (h : Nss w v hs) : ∃ a cap, v = .slice a hs.length cap ∧ hs.length ≤ cap ∧ cap ≤ 9223372036854775807 := by
  obtain ⟨_, a, cap, h1, h2, h3, _⟩ := h
  exact ⟨a, cap, h1, h2, by unfold maxLen at h3; omega⟩
theorem Nss.at {w : World} {a : Option Addr} {n cap : Nat} {hs : List (Nat × Nat × List UInt8)} (h : Nss w (.slice a n cap) hs) (i : Nat) (hi : i < hs.length) :
    n = hs.length ∧ hs.length ≤ cap ∧ cap ≤ 9223372036854775807 ∧ ∃ B off, a = some ⟨B, off, none⟩ ∧ B < w.heap.size ∧ w.rangeAt B (off + i * 34) (ncell hs[i]).toList ∧ hs[i].2.2.length = 32 := by
  obtain ⟨h0, a', cap', h1, h2, h3, h4⟩ := h
  cases h1
  have hne : hs ≠ [] := fun e => by subst e; simp at hi
  obtain ⟨B, off, e1, e2, e3⟩ := h4 hne
  exact ⟨rfl, h2, by unfold maxLen at h3; omega, B, off, e1, e2, e3 i hi, h0 _ (List.getElem_mem hi)⟩
/-- a row of one's own reads as its nodes -/
theorem nss_own {w : World} {base n : Nat} {v : Value} {ls : List (Nat × Nat × List UInt8)} (h : w.ownsRow base 105 34 v n (ncells ls)) (hl : ∀ x ∈ ls, x.2.2.length = 32) (hn : n = ls.length) : Nss w v ls := by
  subst hn
  rcases id h.2 with ⟨rfl, h0⟩ | ⟨g, cap, cur, rfl, hb, hg, h1, h2, h3, h4⟩
  · obtain rfl : ls = [] := List.length_eq_zero_iff.1 h0
    exact ⟨(fun _ h => (by cases h)), none, 0, rfl, Nat.le_refl _, (by unfold maxLen; decide), fun h => absurd rfl h⟩
  · refine ⟨hl, _, cap, rfl, h1, h2, fun _ => ⟨g, 0, rfl, (Array.getElem?_eq_some_iff.1 hg).1, fun i hi => ?_⟩⟩
    intro j x hx
    have hj : j < 34 := by
      have := (List.getElem?_eq_some_iff.1 hx).1
      rwa [Array.length_toList, ncell_size (hl _ (List.getElem_mem hi))] at this
    rw [Nat.zero_add, h.cellAt (i * 34 + j) (by omega), ncells_get hl i hi j hj]
    simpa using hx
end Go.Proofs.YtgbafjmklefoiaaGreatDoor
end
