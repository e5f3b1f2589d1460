/- A slice of one hash, built; rows of hashes of one's own. -/
import Derived.Test.YtbhcaalelfaceaaGreatDoorVh
import Derived.Test.YtbhcaalelfaceaaGreatDoorG2
import Derived.Great.BuildSlice
namespace Go.Proofs.YtbhcaalelfaceaaGreatDoor
set_option maxRecDepth 100000
open Go.RowKit
theorem fold_fill (off : Nat) : ∀ (l : List Value) (k : Nat) (cs : Array Value) (i : Nat),
    ((l.zipIdx k).foldl (fun cs p => cs.setIfInBounds (off + p.2) p.1) cs)[i]? = if off + k ≤ i ∧ i < off + k + l.length ∧ i < cs.size then l[i - (off + k)]? else cs[i]?
  | [], k, cs, i => by rw [if_neg (by simp; omega)]; rfl
  | x :: l, k, cs, i => by
    rw [List.zipIdx_cons, List.foldl_cons, fold_fill off l (k + 1)]
    simp only [List.length_cons, Array.size_setIfInBounds]
    by_cases h : off + (k + 1) ≤ i ∧ i < off + (k + 1) + l.length ∧ i < cs.size
    · rw [if_pos h, if_pos (by omega), show i - (off + k) = (i - (off + (k + 1))) + 1 by omega, List.getElem?_cons_succ]
    · rw [if_neg h, Array.getElem?_setIfInBounds]
      by_cases h2 : off + k = i
      · subst h2
        by_cases h3 : off + k < cs.size
        · simp [h3]
        · simp [h3]
      · rw [if_neg h2, if_neg (by omega)]
theorem size_fill (off : Nat) : ∀ (l : List Value) (k : Nat) (cs : Array Value), ((l.zipIdx k).foldl (fun cs p => cs.setIfInBounds (off + p.2) p.1) cs).size = cs.size
  | [], _, _ => rfl
  | x :: l, k, cs => by rw [List.zipIdx_cons, List.foldl_cons, size_fill off l (k + 1)]; simp
theorem fill_step {n : Nat} (pl : Nat → Option (Nat × Nat)) (Z X : Array Value) (i off : Nat) (r : List (Nat × Value)) (hp : pl i = some (off, n)) (hX : X.size = n) (hZ : off + n ≤ Z.size) :
    Instr.fill pl Z ((i, .agg X) :: r) = Instr.fill pl ((X.toList.zipIdx 0).foldl (fun cs p => cs.setIfInBounds (off + p.2) p.1) Z) r := by
  have e : (Value.agg X).cells = X := rfl
  rw [Instr.fill, hp]
  simp only [e, hX]
  rw [if_neg (by simp; omega), ← Array.foldl_toList, Array.toList_zipIdx]
theorem infoHz : ∃ ie z, Tryz.prog.info? 66 = some ie ∧ ie.zero = some z ∧ ie.size = 32 := by
  have h : (Tryz.prog.info? 66).map (fun i => (i.zero.isSome, i.size)) = some (true, 32) := by kernel_rfl
  obtain ⟨i, hi, hi2⟩ := Option.map_eq_some_iff.1 h
  simp only [Prod.mk.injEq] at hi2
  obtain ⟨z, hz⟩ := Option.isSome_iff_exists.1 hi2.1
  exact ⟨i, z, hi, hz, hi2.2⟩
theorem fill_one {n : Nat} (pl : Nat → Option (Nat × Nat)) (Z : Array Value) (hZ : Z.size = n) (h0 : pl 0 = some (0, n)) (A : Array Value) (sa : A.size = n) : Instr.fill pl Z [(0, .agg A)] = some A := by
  rw [fill_step pl Z A 0 0 _ h0 sa (by omega)]
  show some _ = some _
  congr 1
  apply Array.ext
  · rw [size_fill, sa, hZ]
  · intro j h1 h2
    apply Option.some.inj
    rw [← Array.getElem?_eq_getElem, ← Array.getElem?_eq_getElem, fold_fill, if_pos ⟨by omega, by rw [Array.length_toList, sa]; omega, by rw [hZ]; omega⟩]
    simp
theorem bs_one (w : World) (a : List UInt8) (ha : a.length = 32) : (Instr.buildSlice 51 1 #[(0, .agg (ocells a))]).run Tryz.prog w = .ok (.slice (some ⟨w.heap.size, 0, none⟩) 1 1) (w.alloc (.cells (ocells a) 66)) := by
  obtain ⟨ie, z, hie, hz, hs⟩ := infoHz
  refine run_buildSlice w _ _ 1 _ (ocells a) ie z underHs hie hz (by rw [hs]; decide) (by rw [hs]; decide) ?_
  rw [hs]
  exact fill_one _ _ (by simp) rfl _ (by rw [ocells_size, ha])
theorem run_bs_one {o : Oper} {a : Act} (w : World) (x : Operand) (ho : o.op = .buildSlice 51 1 #[(0, x)]) (p : List UInt8) (hp : p.length = 32) (hx : a.eval x = .agg (ocells p)) :
    (execOp a.eval o).run Tryz.prog w = .ok (.value (.slice (some ⟨w.heap.size, 0, none⟩) 1 1)) (w.alloc (.cells (ocells p) 66)) := by
  have hr := bs_one w p hp
  unfold execOp
  simp only [ho, List.map_toArray, List.map_cons, List.map_nil, hx, Sem.run_bind, hr, Result.andThen_ok, Sem.run_pure]
/-- the cells of hashes side by side -/
def hcells (ls : List (List UInt8)) : List Value := ls.flatMap bcells
theorem hcells_push (ls : List (List UInt8)) (c : List UInt8) : hcells ls ++ (ocells c).toList = hcells (ls ++ [c]) := by simp [hcells, ocells]
theorem hcells_length {ls : List (List UInt8)} (h : ∀ x ∈ ls, x.length = 32) : (hcells ls).length = ls.length * 32 := by
  induction ls with
  | nil => rfl
  | cons x l ih =>
    have h1 := ih fun y hy => h y (List.mem_cons_of_mem _ hy)
    have h2 := h x (List.mem_cons_self)
    unfold hcells at h1 ⊢
    rw [List.flatMap_cons, List.length_append, h1, bcells_length, h2, List.length_cons]
    omega
theorem hcells_get {ls : List (List UInt8)} (h : ∀ x ∈ ls, x.length = 32) (i : Nat) (hi : i < ls.length) (j : Nat) (hj : j < 32) : (hcells ls)[i * 32 + j]? = (bcells ls[i])[j]? := by
  induction ls generalizing i with
  | nil => exact absurd hi (Nat.not_lt_zero _)
  | cons x l ih =>
    have h2 := h x (List.mem_cons_self)
    unfold hcells
    rw [List.flatMap_cons]
    cases i with
    | zero =>
      rw [List.getElem?_append_left (by rw [bcells_length]; omega)]
      simp
    | succ i =>
      rw [List.getElem?_append_right (by rw [bcells_length]; omega), bcells_length, h2, show (i + 1) * 32 + j - 32 = i * 32 + j by omega]
      exact ih (fun y hy => h y (List.mem_cons_of_mem _ hy)) i (by simpa using hi)
/-- a row of one's own reads as its hashes -/
theorem hss_own {w : World} {base n : Nat} {v : Value} {ls : List (List UInt8)} (h : w.ownsRow base 66 32 v n (hcells ls)) (hl : ∀ x ∈ ls, x.length = 32) (hn : n = ls.length) : Hss w v ls := by
  subst hn
  rcases id h.2 with ⟨rfl, h0⟩ | ⟨g, cap, cur, rfl, hb, hg, h1, h2, h3, h4⟩
  · obtain rfl : ls = [] := List.length_eq_zero_iff.1 h0
    exact ⟨(fun _ h => (by cases h)), none, 0, rfl, Nat.le_refl _, (by unfold maxLen; decide), fun h => absurd rfl h⟩
  · refine ⟨hl, _, cap, rfl, h1, h2, fun _ => ⟨g, 0, rfl, (Array.getElem?_eq_some_iff.1 hg).1, fun i hi => ?_⟩⟩
    intro j x hx
    have hj : j < 32 := by
      have := (List.getElem?_eq_some_iff.1 hx).1
      rwa [bcells_length, hl _ (List.getElem_mem hi)] at this
    rw [Nat.zero_add, h.cellAt (i * 32 + j) (by omega), hcells_get hl i hi j hj]
    exact hx
end Go.Proofs.YtbhcaalelfaceaaGreatDoor
