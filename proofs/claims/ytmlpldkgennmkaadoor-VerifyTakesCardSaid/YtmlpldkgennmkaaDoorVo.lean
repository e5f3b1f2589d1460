/- Two hashes side by side in one block: built, held, written and compared. -/
import Derived.Test.YtmlpldkgennmkaaDoorVl
import Derived.Test.YtmlpldkgennmkaaDoorBs1
import Derived.ChangeKeysEq
namespace Go.Proofs.YtmlpldkgennmkaaDoor
set_option maxRecDepth 100000
open Go.RowKit
theorem under2 : Tryd.prog.underlying 76 = some (.array 2 24) := by kernel_rfl
theorem infoTwo : (Tryd.prog.info? 76).map (fun i => (i.zero.map (·.cells.size), i.size)) = some (some 64, 64) := by kernel_rfl
theorem infoHs : (Tryd.prog.info? 24).map (·.size) = some 32 := by kernel_rfl
theorem fill_two (pl : Nat → Option (Nat × Nat)) (Z : Array Value) (hZ : Z.size = 64) (h0 : pl 0 = some (0, 32)) (h1 : pl 1 = some (32, 32)) (A B : Array Value) (sa : A.size = 32) (sb : B.size = 32) :
    Instr.fill pl Z [(0, .agg A), (1, .agg B)] = some (A ++ B) := by
  rw [fill_step pl Z A 0 0 _ h0 sa (by omega), fill_step pl _ B 1 32 _ h1 sb (by rw [size_fill]; omega)]
  show some _ = some _
  congr 1
  apply Array.ext
  · rw [size_fill, size_fill, Array.size_append, sa, sb, hZ]
  · intro j h1 h2
    apply Option.some.inj
    rw [← Array.getElem?_eq_getElem, ← Array.getElem?_eq_getElem, fold_fill, fold_fill]
    rw [Array.size_append, sa, sb] at h2
    rw [Array.getElem?_append, sa]
    by_cases hj : j < 32
    · rw [if_neg (by rw [size_fill]; omega), if_pos ⟨by omega, by rw [Array.length_toList, sa]; omega, by rw [hZ]; omega⟩, if_pos hj]
      simp
    · rw [if_pos ⟨by omega, by rw [Array.length_toList, sb]; omega, by rw [size_fill, hZ]; omega⟩, if_neg hj]
      simp
theorem built_two (a b : List UInt8) (ha : a.length = 32) (hb : b.length = 32) : Tryd.prog.built 76 [(0, .agg (ocells a)), (1, .agg (ocells b))] = some (ocells a ++ ocells b) := by
  obtain ⟨i, hi, hi2⟩ := Option.map_eq_some_iff.1 infoTwo
  simp only [Prod.mk.injEq] at hi2
  obtain ⟨hz0, hs0⟩ := hi2
  obtain ⟨z, hz, hzs⟩ := Option.map_eq_some_iff.1 hz0
  obtain ⟨ie, hie, hies⟩ := Option.map_eq_some_iff.1 infoHs
  unfold Program.built
  rw [hi, under2]
  simp only [hz, hie, hies]
  exact fill_two _ _ hzs rfl rfl _ _ (by rw [ocells_size, ha]) (by rw [ocells_size, hb])
theorem part_two (w : World) (x : List UInt8) (xs : Array Value) (off : Nat) (h : xs.extract off (off + 32) = ocells x) : (part 24 xs off).run Tryd.prog w = .ok (.agg (ocells x)) w := by
  obtain ⟨ie, hie, hies⟩ := Option.map_eq_some_iff.1 infoHs
  have e1 : (isAgg 24).run Tryd.prog w = .ok true w := by
    unfold isAgg
    simp only [Sem.run_bind, run_underlying underH, Result.andThen_ok, Sem.run_pure]
  unfold part
  simp only [Sem.run_bind, e1, Result.andThen_ok, if_true, run_sizeOf w hie, Sem.run_pure, vcellsH, h]
theorem oc (x : List UInt8) : ocells x = (x.map Extern.Stop.cell).toArray := rfl
theorem ext_lo (x y : List UInt8) (hx : x.length = 32) : (ocells x ++ ocells y).extract 0 (0 + 32) = ocells x := by
  have : (ocells x).size = 32 := by rw [ocells_size, hx]
  rw [Nat.zero_add, ← this, Array.extract_append]
  simp
theorem ext_hi (x y : List UInt8) (hx : x.length = 32) (hy : y.length = 32) : (ocells x ++ ocells y).extract 32 (32 + 32) = ocells y := by
  have h1 : (ocells x).size = 32 := by rw [ocells_size, hx]
  have h2 : (ocells y).size = 32 := by rw [ocells_size, hy]
  apply Array.ext
  · simp [h1, h2]
  · intro j k1 k2
    rw [Array.getElem_extract, Array.getElem_append_right (by omega)]
    simp [h1]
theorem eq_cell (w : World) (x y : List UInt8) (hx : x.length = 32) (hy : y.length = 32) : (Op.equalIn (9997 + 2) 24 (.agg (ocells x)) (.agg (ocells y))).run Tryd.prog w = .ok (x == y) w := by
  rw [oc, oc]
  exact run_equalIn_bytes w 9997 24 5 32 underH (by kernel_rfl) (fun _ => by kernel_rfl) x y hx hy
theorem eq_items (D : Nat) (w : World) (a b c d : List UInt8) (ha : a.length = 32) (hb : b.length = 32) (hc : c.length = 32) (hd : d.length = 32)
    (q : ∀ (x y : List UInt8), x.length = 32 → y.length = 32 → (Op.equalIn D 24 (.agg (ocells x)) (.agg (ocells y))).run Tryd.prog w = .ok (x == y) w) :
    (Op.eqItems D 24 32 (ocells a ++ ocells b) (ocells c ++ ocells d) [0, 1]).run Tryd.prog w = .ok (a == c && b == d) w := by
  have p0 := part_two w a (ocells a ++ ocells b) 0 (ext_lo a b ha)
  have p1 := part_two w c (ocells c ++ ocells d) 0 (ext_lo c d hc)
  have p2 := part_two w b (ocells a ++ ocells b) 32 (ext_hi a b ha hb)
  have p3 := part_two w d (ocells c ++ ocells d) 32 (ext_hi c d hc hd)
  have q1 := q a c ha hc
  have q2 := q b d hb hd
  generalize (a == c) = r1 at q1 ⊢
  generalize (b == d) = r2 at q2 ⊢
  rw [Op.eqItems]
  simp only [Sem.run_bind, Nat.zero_mul, p0, p1, Result.andThen_ok, q1]
  cases r1
  · simp only [Bool.not_false, if_true, Sem.run_pure, Bool.false_and]
  · rw [Op.eqItems]
    simp only [Bool.not_true, Bool.false_eq_true, if_false, Sem.run_bind, Nat.one_mul, p2, p3, Result.andThen_ok, q2]
    cases r2
    · simp only [Bool.not_false, if_true, Sem.run_pure, Bool.true_and]
    · rw [Op.eqItems]
      simp only [Bool.not_true, Bool.false_eq_true, if_false, Sem.run_pure, Bool.true_and]
theorem eq_two (w : World) (a b c d : List UInt8) (ha : a.length = 32) (hb : b.length = 32) (hc : c.length = 32) (hd : d.length = 32) :
    (Op.equalIn (9999 + 1) 76 (.agg (ocells a ++ ocells b)) (.agg (ocells c ++ ocells d))).run Tryd.prog w = .ok (a == c && b == d) w := by
  obtain ⟨ie, hie, hies⟩ := Option.map_eq_some_iff.1 infoHs
  rw [run_equalIn_array w 9999 _ _ under2 hie, show List.range 2 = [0, 1] from rfl, vcellsH]
  exact eq_items 9999 w a b c d ha hb hc hd (fun x y hx hy => eq_cell w x y hx hy)
theorem neq_two (w : World) (a b c d : List UInt8) (ha : a.length = 32) (hb : b.length = 32) (hc : c.length = 32) (hd : d.length = 32) :
    (binOp .neq 76 (.agg (ocells a ++ ocells b)) (.agg (ocells c ++ ocells d))).run Tryd.prog w = .ok (.bool (!(a == c && b == d))) w := by
  rw [run_neq_struct, show (10000 : Nat) = 9999 + 1 from rfl, eq_two w a b c d ha hb hc hd]; rfl
theorem wpList_build_two {ops : Array Oper} {rest : List Oper} {o : Oper} {a : Act} {w : World} {Q : Exit → Act → World → Prop} (hw : Region.wanted o (yielded ops a.tmps) = true) (x y : Operand) (ho : o.op = .build 76 #[(0, x), (1, y)]) (p q : List UInt8) (hp : p.length = 32) (hq : q.length = 32)
    (hx : a.eval x = .agg (ocells p)) (hy : a.eval y = .agg (ocells q)) (h : wpList Tryd.prog ops Q rest (a.put o.dst (.agg (ocells p ++ ocells q))) w) : wpList Tryd.prog ops Q (o :: rest) a w :=
  wpList_step fun K hK => by
    have hf : Tryd.prog.built 76 ((#[(0, x), (1, y)] : Array (Nat × Operand)).map fun (i, x) => (i, a.eval x)).toList = some (ocells p ++ ocells q) := by
      rw [show ((#[(0, x), (1, y)] : Array (Nat × Operand)).map fun (i, x) => (i, a.eval x)).toList = [(0, a.eval x), (1, a.eval y)] by simp, hx, hy, built_two p q hp hq]
    rw [if_pos hw]
    refine wp_build _ _ ho (by rw [hf]; rfl) ?_
    rw [hf]
    exact hK _ _ h
/-- a block of two hashes -/
structure Two (w : World) (g : Nat) (a b : List UInt8) : Prop where
  one : w.rangeAt g 0 (bcells a)
  two : w.rangeAt g 32 (bcells b)
  the : w.there g 0 64
  la : a.length = 32
  lb : b.length = 32
  lt : g < w.heap.size
theorem Two.new {w : World} {g : Nat} {a b : List UInt8} {T : TypeId} (h : w.heap[g]? = some (.cells (ocells a ++ ocells b) T (0, 0))) (ha : a.length = 32) (hb : b.length = 32) : Two w g a b := by
  have sa : (ocells a).size = 32 := by rw [ocells_size, ha]
  have sb : (ocells b).size = 32 := by rw [ocells_size, hb]
  refine ⟨fun j v hv => ?_, fun j v hv => ?_, ?_, ha, hb, (Array.getElem?_eq_some_iff.1 h).1⟩
  · rw [Nat.zero_add]
    refine er_cellAt h j v ?_
    have hj := (List.getElem?_eq_some_iff.1 hv).1
    rw [bcells_length] at hj
    rw [Array.getElem?_append, if_pos (by omega)]
    simpa [ocells] using hv
  · refine er_cellAt h (32 + j) v ?_
    rw [Array.getElem?_append, if_neg (by omega), sa, show 32 + j - 32 = j by omega]
    simpa [ocells] using hv
  · have := there_row h
    rwa [Array.size_append, sa, sb] at this
theorem Two.below {w w' : World} {g : Nat} {a b : List UInt8} (h : Two w g a b) (k : Below w.heap.size w w') : Two w' g a b :=
  ⟨rangeAt_below h.one h.lt k, rangeAt_below h.two h.lt k, fun j hj => by
    have e1 := k.cell (p := ⟨g, 0 + j, none⟩) h.lt
    have e2 := k.frozen (p := ⟨g, 0 + j, none⟩) h.lt
    exact ⟨by rw [e1]; exact (h.the j hj).1, by rw [e2]; exact (h.the j hj).2⟩, h.la, h.lb, Nat.lt_of_lt_of_le h.lt k.size⟩
theorem Two.at0 {w : World} {g : Nat} {a b : List UInt8} (h : Two w g a b) {x : List UInt8} (hx : x.length = 32) : w.there g 0 (ocells x).size := fun j hj => h.the j (by rw [ocells_size, hx] at hj; omega)
theorem Two.at1 {w : World} {g : Nat} {a b : List UInt8} (h : Two w g a b) {x : List UInt8} (hx : x.length = 32) : w.there g 32 (ocells x).size := fun j hj => by
  have := h.the (32 + j) (by rw [ocells_size, hx] at hj; omega)
  rwa [Nat.zero_add] at this
theorem Two.set0 {w : World} {g : Nat} {a b : List UInt8} (h : Two w g a b) {x : List UInt8} (hx : x.length = 32) : Two (w.setCells g 0 (ocells x).toList) g x b :=
  ⟨World.rangeAt_setCells_same w g 0 (ocells x).toList (by rw [Array.length_toList]; exact h.at0 hx),
   World.rangeAt_setCells_apart h.two g 0 _ (.inr (.inr (by rw [Array.length_toList, ocells_size, hx]; omega))),
   World.there_setCells h.the _ _ _, hx, h.lb, by rw [size_setCells]; exact h.lt⟩
theorem Two.set1 {w : World} {g : Nat} {a b : List UInt8} (h : Two w g a b) {x : List UInt8} (hx : x.length = 32) : Two (w.setCells g 32 (ocells x).toList) g a x :=
  ⟨World.rangeAt_setCells_apart h.one g 32 _ (.inr (.inl (by rw [bcells_length, h.la]; omega))),
   World.rangeAt_setCells_same w g 32 (ocells x).toList (by rw [Array.length_toList]; exact h.at1 hx),
   World.there_setCells h.the _ _ _, h.la, hx, by rw [size_setCells]; exact h.lt⟩
theorem Two.all {w : World} {g : Nat} {a b : List UInt8} (h : Two w g a b) : w.rangeAt g 0 (bcells a ++ bcells b) := fun j v hv => by
  by_cases hj : j < 32
  · rw [List.getElem?_append_left (by rw [bcells_length, h.la]; omega)] at hv
    exact h.one j v hv
  · rw [List.getElem?_append_right (by rw [bcells_length, h.la]; omega), bcells_length, h.la] at hv
    have := h.two (j - 32) v hv
    rwa [show 32 + (j - 32) = 0 + j by omega] at this
theorem two_cells (a b : List UInt8) : (bcells a ++ bcells b).toArray = ocells a ++ ocells b := by simp [ocells]
theorem szTwo {a b : List UInt8} (ha : a.length = 32) (hb : b.length = 32) : (Tryd.prog.info? 76).map (·.size) = some (bcells a ++ bcells b).length := by
  rw [List.length_append, bcells_length, bcells_length, ha, hb]; kernel_rfl
theorem szTwo' {a b : List UInt8} (ha : a.length = 32) (hb : b.length = 32) : (Tryd.prog.info? 76).map (·.size) = some (ocells a ++ ocells b).size := by
  rw [Array.size_append, ocells_size, ocells_size, ha, hb]; kernel_rfl
theorem two_one (a b : List UInt8) : (ocells a ++ ocells b).all (·.oneCell') = true := by rw [Array.all_append, ocells_one, ocells_one]; rfl
end Go.Proofs.YtmlpldkgennmkaaDoor
