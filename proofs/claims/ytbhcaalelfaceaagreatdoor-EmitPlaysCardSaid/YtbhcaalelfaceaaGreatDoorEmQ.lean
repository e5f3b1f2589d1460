/- Nodes compared. -/
import Derived.Test.YtbhcaalelfaceaaGreatDoorEmN
import Derived.Laws.StructEq
import Derived.ChangeKeysEq
namespace Go.Proofs.YtbhcaalelfaceaaGreatDoor
set_option maxRecDepth 100000
open Go.RowKit
theorem nInfoH : (Tryz.prog.info? 66).map (·.size) = some 32 := by kernel_rfl
theorem nInfoC : (Tryz.prog.info? 119).map (·.size) = some 2 := by kernel_rfl
theorem nUnderC : Tryz.prog.underlying 119 = some (.struct (Tryz.prog.fieldsOf 119)) := by kernel_rfl
theorem nCellsC : Tryz.prog.cellsOf 119 = 2 := by kernel_rfl
theorem part_hash (w : World) (x : List UInt8) (xs : Array Value) (off : Nat) (h : xs.extract off (off + 32) = ocells x) : (part 66 xs off).run Tryz.prog w = .ok (.agg (ocells x)) w := by
  obtain ⟨ie, hie, hies⟩ := Option.map_eq_some_iff.1 nInfoH
  have e1 : (isAgg 66).run Tryz.prog w = .ok true w := by
    unfold isAgg
    simp only [Sem.run_bind, run_underlying underH, Result.andThen_ok, Sem.run_pure]
  unfold part
  simp only [Sem.run_bind, e1, Result.andThen_ok, if_true, run_sizeOf w hie, Sem.run_pure, vcellsH, h]
theorem part_coord (w : World) (c xs : Array Value) (h : xs.extract 0 (0 + 2) = c) : (part 119 xs 0).run Tryz.prog w = .ok (.agg c) w := by
  obtain ⟨ie, hie, hies⟩ := Option.map_eq_some_iff.1 nInfoC
  have e1 : (isAgg 119).run Tryz.prog w = .ok true w := by
    unfold isAgg
    simp only [Sem.run_bind, run_underlying nUnderC, Result.andThen_ok, Sem.run_pure]
  unfold part
  simp only [Sem.run_bind, e1, Result.andThen_ok, if_true, run_sizeOf w hie, Sem.run_pure, nCellsC, h]
theorem eq_hash (w : World) (x y : List UInt8) (hx : x.length = 32) (hy : y.length = 32) : (Op.equalIn (9997 + 2) 66 (.agg (ocells x)) (.agg (ocells y))).run Tryz.prog w = .ok (x == y) w := by
  rw [show ∀ z : List UInt8, ocells z = (z.map Extern.Stop.cell).toArray from fun _ => rfl, show ∀ z : List UInt8, ocells z = (z.map Extern.Stop.cell).toArray from fun _ => rfl]
  exact run_equalIn_bytes w 9997 66 5 32 underH (by kernel_rfl) (fun _ => by kernel_rfl) x y hx hy
theorem eq_coord (D : Nat) (w : World) (a b c d : Nat) : (Op.equalIn (D + 2) 119 (.agg #[.int .u8 (a : Int), .int .u64 (b : Int)]) (.agg #[.int .u8 (c : Int), .int .u64 (d : Int)])).run Tryz.prog w = .ok (a == c && b == d) w := by
  simp [go_sem, Op.equalIn]
  by_cases h1 : a = c
  · by_cases h2 : b = d
    · subst h1; subst h2; simp
    · have : ¬ (b : Int) = (d : Int) := by omega
      simp [h1, h2, this]
  · have : ¬ (a : Int) = (c : Int) := by omega
    simp [h1, this]
theorem fieldsNd : (Tryz.prog.fieldsOf 130).toList.map (fun f => (f.type, f.offset, f.name == "_")) = [(119, 0, false), (66, 2, false)] := by kernel_rfl
theorem ncell_lo (p : Nat × Nat × List UInt8) : (ncell p).extract 0 (0 + 2) = #[.int .u8 (p.1 : Int), .int .u64 (p.2.1 : Int)] := by
  unfold ncell
  rw [Nat.zero_add, show 2 = (#[Value.int .u8 (p.1 : Int), Value.int .u64 (p.2.1 : Int)] : Array Value).size from rfl, Array.extract_append]
  simp
theorem ncell_hi {p : Nat × Nat × List UInt8} (h : p.2.2.length = 32) : (ncell p).extract 2 (2 + 32) = ocells p.2.2 := by
  have h2 : (ocells p.2.2).size = 32 := by rw [ocells_size, h]
  unfold ncell
  apply Array.ext
  · simp [h2]
  · intro j k1 k2
    simp
theorem eq_fieldsN (D : Nat) (w : World) (p q : Nat × Nat × List UInt8) (hp : p.2.2.length = 32) (hq : q.2.2.length = 32) (fs : List Field) (h : fs.map (fun f => (f.type, f.offset, f.name == "_")) = [(119, 0, false), (66, 2, false)])
    (c1 : (Op.equalIn D 119 (.agg #[.int .u8 (p.1 : Int), .int .u64 (p.2.1 : Int)]) (.agg #[.int .u8 (q.1 : Int), .int .u64 (q.2.1 : Int)])).run Tryz.prog w = .ok (p.1 == q.1 && p.2.1 == q.2.1) w)
    (c2 : (Op.equalIn D 66 (.agg (ocells p.2.2)) (.agg (ocells q.2.2))).run Tryz.prog w = .ok (p.2.2 == q.2.2) w) :
    (Op.eqFields D (ncell p) (ncell q) fs).run Tryz.prog w = .ok ((p.1 == q.1 && p.2.1 == q.2.1) && p.2.2 == q.2.2) w := by
  match fs, h with
  | [], h => simp at h
  | [f], h => simp at h
  | f :: g :: k :: r, h => simp at h
  | [f, g], h =>
    simp only [List.map_cons, List.map_nil, List.cons.injEq, Prod.mk.injEq, and_true] at h
    obtain ⟨⟨f1, f2, f3⟩, g1, g2, g3⟩ := h
    have f4 : f.name ≠ "_" := by simpa using f3
    have g4 : g.name ≠ "_" := by simpa using g3
    have p0 := part_coord w _ (ncell p) (ncell_lo p)
    have p1 := part_coord w _ (ncell q) (ncell_lo q)
    have p2 := part_hash w p.2.2 (ncell p) 2 (ncell_hi hp)
    have p3 := part_hash w q.2.2 (ncell q) 2 (ncell_hi hq)
    generalize (p.1 == q.1 && p.2.1 == q.2.1) = r1 at c1 ⊢
    generalize (p.2.2 == q.2.2) = r2 at c2 ⊢
    rw [Op.eqFields, if_pos f4, f1, f2]
    simp only [Sem.run_bind, p0, p1, Result.andThen_ok, c1]
    cases r1
    · simp only [Bool.not_false, if_true, Sem.run_pure, Bool.false_and]
    · rw [Op.eqFields, if_pos g4, g1, g2]
      simp only [Bool.not_true, Bool.false_eq_true, if_false, Sem.run_bind, p2, p3, Result.andThen_ok, c2]
      cases r2
      · simp only [Bool.not_false, if_true, Sem.run_pure, Bool.true_and]
      · rw [Op.eqFields]
        simp only [Bool.not_true, Bool.false_eq_true, if_false, Sem.run_pure, Bool.true_and]
theorem heldNd : Tryz.prog.stoodInHeld 130 = false := by kernel_rfl
theorem eq_node (w : World) (p q : Nat × Nat × List UInt8) (hp : p.2.2.length = 32) (hq : q.2.2.length = 32) :
    (Op.equalIn (9999 + 1) 130 (.agg (ncell p)) (.agg (ncell q))).run Tryz.prog w = .ok ((p.1 == q.1 && p.2.1 == q.2.1) && p.2.2 == q.2.2) w :=
  (run_equalIn_struct w 9999 130 _ _ underNd heldNd).trans (eq_fieldsN 9999 w p q hp hq _ fieldsNd (eq_coord 9997 w _ _ _ _) (eq_hash w _ _ hp hq))
theorem neq_node (w : World) (p q : Nat × Nat × List UInt8) (hp : p.2.2.length = 32) (hq : q.2.2.length = 32) :
    (binOp .neq 130 (.agg (ncell p)) (.agg (ncell q))).run Tryz.prog w = .ok (.bool (!((p.1 == q.1 && p.2.1 == q.2.1) && p.2.2 == q.2.2))) w := by
  rw [run_neq_struct, show (10000 : Nat) = 9999 + 1 from rfl, eq_node w p q hp hq]; rfl
end Go.Proofs.YtbhcaalelfaceaaGreatDoor
