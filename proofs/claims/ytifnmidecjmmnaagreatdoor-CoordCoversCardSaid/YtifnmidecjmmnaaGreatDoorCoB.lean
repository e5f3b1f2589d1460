/- cartulary/coord, walked: Parent, Sibling, Children. -/
import Derived.Test.YtifnmidecjmmnaaGreatDoorCoA
namespace Go.Proofs.YtifnmidecjmmnaaGreatDoor
open Go.RowKit
theorem two_set' {w : World} {n m : Nat} {a b : Value} {T : TypeId} {fr : Nat × Nat} (h : w.heap[m]? = some (.cells #[a, b] T fr)) (x y x' y' : Value) (hn : m ≠ n) :
    ((((w.setCell ⟨n, 0, none⟩ x).setCell ⟨n, 1, none⟩ y).setCell ⟨m, 0, none⟩ x').setCell ⟨m, 1, none⟩ y').heap[m]? = some (.cells #[x', y'] T fr) :=
  two_setC (((Below.heap_setCell _ _ _ _ hn).trans (Below.heap_setCell _ _ _ _ hn)).trans h) x' y'
theorem may_lt {L I : Nat} (h : mayB L I = true) : I < 2 ^ 63 := by
  have := may_begin h
  have hp := Nat.two_pow_pos L
  have : I * 1 ≤ I * 2 ^ L := Nat.mul_le_mul_left _ hp
  omega
theorem nat_xor_one (I : Nat) : I ^^^ 1 = if I % 2 = 0 then I + 1 else I - 1 := by
  have h1 : (I ^^^ 1) / 2 = I / 2 := by rw [Nat.xor_div_two]; simp
  have h2 : (I ^^^ 1) % 2 = (I + 1) % 2 := by
    have := Nat.xor_mod_two_eq_one (a := I) (b := 1)
    omega
  split <;> omega
theorem nat_or_one (I : Nat) : 2 * I ||| 1 = 2 * I + 1 := by
  have h1 : (2 * I ||| 1) / 2 = I := by rw [Nat.or_div_two]; simp
  have h2 : (2 * I ||| 1) % 2 = 1 := by rw [Nat.or_mod_two_eq_one]; simp
  omega
theorem xor_one {I : Nat} (h : I < 18446744073709551616) : bits .xor .u64 (I : Int) 1 = ((if I % 2 = 0 then I + 1 else I - 1 : Nat) : Int) := by
  rw [← nat_xor_one]
  exact u64_xor_nat I 1 h (by decide)
theorem or_one {I : Nat} (h : 2 * I < 18446744073709551616) : bits .or .u64 ((2 * I : Nat) : Int) 1 = ((2 * I + 1 : Nat) : Int) := by
  rw [← nat_or_one]
  exact u64_or_nat (2 * I) 1 h (by decide)
theorem three_new {w w1 : World} {o1 o2 o3 : Obj} (hb : Below (((w.alloc o1).alloc o2).alloc o3).heap.size (((w.alloc o1).alloc o2).alloc o3) w1) :
    w1.heap[w.heap.size]? = some o1 ∧ w1.heap[w.heap.size + 1]? = some o2 ∧ w1.heap[w.heap.size + 2]? = some o3 ∧ Below w.heap.size w w1 ∧ w.heap.size + 3 ≤ w1.heap.size := by
  have hs : (((w.alloc o1).alloc o2).alloc o3).heap.size = w.heap.size + 3 := by simp
  have h2 := two_new (w := w) (o1 := o1) (o2 := o2) (w1 := ((w.alloc o1).alloc o2).alloc o3) (below_new _ _)
  refine ⟨(hb.block _ (by omega)).trans h2.1, (hb.block _ (by omega)).trans h2.2.1, (hb.block _ (by omega)).trans ?_, h2.2.2.1.trans (hb.mono (by omega)), by have := hb.size; omega⟩
  have := heap_alloc_new ((w.alloc o1).alloc o2) o3
  simpa using this
theorem res_cct {fn : Func} {p q u : Tmp} {ty : TypeId} {P : Program} (h : fn.results = #[.cell p ty, .cell q ty, .tmp u]) (tmps : Array Value) (w : World) (g g' : Nat) (t t' : TypeId) (cs cs' : Array Value) (fr fr' : Nat × Nat) (f : Array Field)
    (hp : tmps.getD p undef = .pointer (some ⟨g, 0, none⟩)) (hg : w.heap[g]? = some (.cells cs t fr))
    (hp' : tmps.getD q undef = .pointer (some ⟨g', 0, none⟩)) (hg' : w.heap[g']? = some (.cells cs' t' fr'))
    (hu : P.underlying ty = some (.struct f)) (hi : (P.info? ty).map (·.size) = some cs.size) (hi' : (P.info? ty).map (·.size) = some cs'.size) :
    (results fn tmps).run P w = .ok (.tuple #[.agg cs, .agg cs', tmps.getD u undef]) w := by
  have e1 : tmps[p]?.getD undef = .pointer (some ⟨g, 0, none⟩) := by simpa using hp
  have e2 : tmps[q]?.getD undef = .pointer (some ⟨g', 0, none⟩) := by simpa using hp'
  simp [results, h, e1, e2, asAddr, run_loadVar_row w g t ty cs fr (.struct f) hg hu rfl hi, run_loadVar_row w g' t' ty cs' fr' (.struct f) hg' hu rfl hi', Sem.run_bind, Result.andThen]
end Go.Proofs.YtifnmidecjmmnaaGreatDoor
