/- pairs of hashes in memory; cartularylaw18.climbs. -/
import Derived.Test.YtmlpldkgennmkaaDoorBna
import Derived.Test.YtmlpldkgennmkaaDoorOwn4
import Derived.Test.YtmlpldkgennmkaaDoorBs1
import Derived.Laws.StructEq
namespace Go.Proofs.YtmlpldkgennmkaaDoor
set_option maxRecDepth 100000
open Go.RowKit
theorem underP : Tryd.prog.underlying 55 = some (.struct (Tryd.prog.fieldsOf 55)) := by kernel_rfl
theorem underPs : Tryd.prog.underlying 51 = some (.slice 55) := by kernel_rfl
theorem vcellsP : Tryd.prog.cellsOf 55 = 64 := by kernel_rfl
def zerosP : Array Value := ocells (List.replicate 64 0)
theorem infoPz : (Tryd.prog.info? 55).map (fun i => (i.zero, i.size, i.bytes)) = some (some (.agg zerosP), 64, 64) := by kernel_rfl
theorem infoP : (Tryd.prog.info? 55).map (·.size) = some 64 := by kernel_rfl
theorem pszB {x y : List UInt8} (hx : x.length = 32) (hy : y.length = 32) : (Tryd.prog.info? 55).map (·.size) = some (ocells x ++ ocells y).size := by
  rw [Array.size_append, ocells_size, ocells_size, hx, hy]; exact infoP
theorem pszL {x y : List UInt8} (hx : x.length = 32) (hy : y.length = 32) : (Tryd.prog.info? 55).map (·.size) = some (bcells x ++ bcells y).length := by
  rw [List.length_append, bcells_length, bcells_length, hx, hy]; exact infoP
theorem psz {x y : List UInt8} (hx : x.length = 32) (hy : y.length = 32) : (ocells x ++ ocells y).size = 64 := by
  rw [Array.size_append, ocells_size, ocells_size, hx, hy]
theorem pone (x y : List UInt8) : (ocells x ++ ocells y).all (·.oneCell') = true := by
  rw [Array.all_append, ocells_one, ocells_one]; rfl
theorem placesP : (Tryd.prog.fieldsOf 55).toList.mapM (fun f => (Tryd.prog.info? f.type).map fun i => (f.offset, i.size)) = some [(0, 32), (32, 32)] := by kernel_rfl
theorem built_pair (a b : List UInt8) (ha : a.length = 32) (hb : b.length = 32) : Tryd.prog.built 55 [(0, .agg (ocells a)), (1, .agg (ocells b))] = some (ocells a ++ ocells b) := by
  obtain ⟨i, hi, hz, _, _⟩ := info_parts infoPz
  unfold Program.built
  rw [hi, underP]
  simp only [hz, placesP]
  exact fill_two _ _ rfl rfl rfl _ _ (by rw [ocells_size, ha]) (by rw [ocells_size, hb])
theorem fieldsP : (Tryd.prog.fieldsOf 55).toList.map (fun f => (f.type, f.offset, f.name == "_")) = [(24, 0, false), (24, 32, false)] := by kernel_rfl
theorem eq_fieldsP (D : Nat) (w : World) (a b c d : List UInt8) (ha : a.length = 32) (hb : b.length = 32) (hc : c.length = 32) (hd : d.length = 32) (fs : List Field) (h : fs.map (fun f => (f.type, f.offset, f.name == "_")) = [(24, 0, false), (24, 32, false)])
    (q : ∀ (x y : List UInt8), x.length = 32 → y.length = 32 → (Op.equalIn D 24 (.agg (ocells x)) (.agg (ocells y))).run Tryd.prog w = .ok (x == y) w) :
    (Op.eqFields D (ocells a ++ ocells b) (ocells c ++ ocells d) fs).run Tryd.prog w = .ok (a == c && b == d) w := by
  match fs, h with
  | [], h => simp at h
  | [f], h => simp at h
  | f :: g :: k :: r, h => simp at h
  | [f, g], h =>
    simp only [List.map_cons, List.map_nil, List.cons.injEq, Prod.mk.injEq, and_true] at h
    obtain ⟨⟨f1, f2, f3⟩, g1, g2, g3⟩ := h
    have f4 : f.name ≠ "_" := by simpa using f3
    have g4 : g.name ≠ "_" := by simpa using g3
    have p0 := part_two w a (ocells a ++ ocells b) 0 (ext_lo a b ha)
    have p1 := part_two w c (ocells c ++ ocells d) 0 (ext_lo c d hc)
    have p2 := part_two w b (ocells a ++ ocells b) 32 (ext_hi a b ha hb)
    have p3 := part_two w d (ocells c ++ ocells d) 32 (ext_hi c d hc hd)
    have q1 := q a c ha hc
    have q2 := q b d hb hd
    generalize (a == c) = r1 at q1 ⊢
    generalize (b == d) = r2 at q2 ⊢
    rw [Op.eqFields, if_pos f4, f1, f2]
    simp only [Sem.run_bind, p0, p1, Result.andThen_ok, q1]
    cases r1
    · simp only [Bool.not_false, if_true, Sem.run_pure, Bool.false_and]
    · rw [Op.eqFields, if_pos g4, g1, g2]
      simp only [Bool.not_true, Bool.false_eq_true, if_false, Sem.run_bind, p2, p3, Result.andThen_ok, q2]
      cases r2
      · simp only [Bool.not_false, if_true, Sem.run_pure, Bool.true_and]
      · rw [Op.eqFields]
        simp only [Bool.not_true, Bool.false_eq_true, if_false, Sem.run_pure, Bool.true_and]
theorem heldP : Tryd.prog.stoodInHeld 55 = false := by kernel_rfl
theorem eq_pair (w : World) (a b c d : List UInt8) (ha : a.length = 32) (hb : b.length = 32) (hc : c.length = 32) (hd : d.length = 32) :
    (Op.equalIn (9999 + 1) 55 (.agg (ocells a ++ ocells b)) (.agg (ocells c ++ ocells d))).run Tryd.prog w = .ok (a == c && b == d) w :=
  (run_equalIn_struct w 9999 55 _ _ underP heldP).trans (eq_fieldsP 9999 w a b c d ha hb hc hd _ fieldsP (fun x y hx hy => eq_cell w x y hx hy))
theorem neq_pair (w : World) (a b c d : List UInt8) (ha : a.length = 32) (hb : b.length = 32) (hc : c.length = 32) (hd : d.length = 32) :
    (binOp .neq 55 (.agg (ocells a ++ ocells b)) (.agg (ocells c ++ ocells d))).run Tryd.prog w = .ok (.bool (!(a == c && b == d))) w := by
  rw [run_neq_struct, show (10000 : Nat) = 9999 + 1 from rfl, eq_pair w a b c d ha hb hc hd]; rfl
theorem bs_pair (w : World) (Z : Array Value) (hZ : Z.size = 64) : (Instr.buildSlice 51 1 #[(0, .agg Z)]).run Tryd.prog w = .ok (.slice (some ⟨w.heap.size, 0, none⟩) 1 1) (w.alloc (.cells Z 55)) := by
  obtain ⟨i, hi, hz, hs, _⟩ := info_parts infoPz
  refine run_buildSlice w _ _ 1 _ Z i _ underPs hi hz (by rw [hs]; decide) (by rw [hs]; decide) ?_
  rw [hs]
  exact fill_one _ _ (by simp) rfl _ hZ
theorem wpList_bs_pair {ops : Array Oper} {rest : List Oper} {o : Oper} {a : Act} {w : World} {Q : Exit → Act → World → Prop} (hw : Region.wanted o (yielded ops a.tmps) = true) (x : Operand) (ho : o.op = .buildSlice 51 1 #[(0, x)]) (Z : Array Value) (hZ : Z.size = 64)
    (hx : a.eval x = .agg Z) (h : wpList Tryd.prog ops Q rest (a.put o.dst (.slice (some ⟨w.heap.size, 0, none⟩) 1 1)) (w.alloc (.cells Z 55))) : wpList Tryd.prog ops Q (o :: rest) a w :=
  wpList_step fun K hK => by
    rw [if_pos hw]
    have hr := bs_pair w Z hZ
    unfold Oper.wp execOp
    simp only [ho, List.map_toArray, List.map_cons, List.map_nil, hx, Sem.run_bind, hr, Result.andThen_ok]
    exact hK _ _ h
/-- the cells of pairs side by side -/
def pcs (l : List (List UInt8 × List UInt8)) : List Value := l.flatMap fun q => bcells q.1 ++ bcells q.2
def P32 (l : List (List UInt8 × List UInt8)) : Prop := ∀ q ∈ l, q.1.length = 32 ∧ q.2.length = 32
theorem pcs_push (l : List (List UInt8 × List UInt8)) (x y : List UInt8) : pcs l ++ (ocells x ++ ocells y).toList = pcs (l ++ [(x, y)]) := by simp [pcs, ocells]
theorem pcs_get {l : List (List UInt8 × List UInt8)} (h : P32 l) (i : Nat) (hi : i < l.length) (j : Nat) (hj : j < 64) : (pcs l)[i * 64 + j]? = (bcells l[i].1 ++ bcells l[i].2)[j]? := by
  induction l generalizing i with
  | nil => exact absurd hi (Nat.not_lt_zero _)
  | cons x l ih =>
    obtain ⟨h2, h3⟩ := h x (List.mem_cons_self)
    have hx : (bcells x.1 ++ bcells x.2).length = 64 := by rw [List.length_append, bcells_length, bcells_length, h2, h3]
    unfold pcs
    rw [List.flatMap_cons]
    cases i with
    | zero =>
      rw [List.getElem?_append_left (by rw [hx]; omega)]
      simp
    | succ i =>
      rw [List.getElem?_append_right (by rw [hx]; omega), hx, show (i + 1) * 64 + j - 64 = i * 64 + j by omega]
      exact ih (fun y hy => h y (List.mem_cons_of_mem _ hy)) i (by simpa using hi)
/-- a row of pairs of one's own, read at a place -/
theorem pairs_at {w : World} {base n : Nat} {v : Value} {l : List (List UInt8 × List UInt8)} (h : w.ownsRow base 55 64 v n (pcs l)) (hl : P32 l) (hn : n = l.length) (i : Nat) (hi : i < l.length) :
    ∃ g c, v = .slice (some ⟨g, 0, none⟩) n c ∧ n ≤ c ∧ g < w.heap.size ∧ w.rangeAt g (i * 64) (bcells l[i].1 ++ bcells l[i].2) ∧ w.rangeAt g (i * 64) (bcells l[i].1) ∧ w.rangeAt g (i * 64 + 32) (bcells l[i].2) := by
  subst hn
  obtain ⟨h32, h32'⟩ := hl _ (List.getElem_mem hi)
  rcases id h.2 with ⟨rfl, h0⟩ | ⟨g, cap, cur, rfl, hb, hg, h1, h2, h3, h4⟩
  · omega
  · have hr : w.rangeAt g (i * 64) (bcells l[i].1 ++ bcells l[i].2) := fun j x hx => by
      have hj : j < 64 := by
        have := (List.getElem?_eq_some_iff.1 hx).1
        rwa [List.length_append, bcells_length, bcells_length, h32, h32'] at this
      rw [h.cellAt (i * 64 + j) (by omega), pcs_get hl i hi j hj]
      exact hx
    refine ⟨g, cap, rfl, h1, (Array.getElem?_eq_some_iff.1 hg).1, hr, fun j x hx => ?_, fun j x hx => ?_⟩
    · have hj := (List.getElem?_eq_some_iff.1 hx).1
      exact hr j x (by rw [List.getElem?_append_left hj]; exact hx)
    · have := hr (32 + j) x (by rw [List.getElem?_append_right (by rw [bcells_length]; omega), bcells_length, h32, show 32 + j - 32 = j by omega]; exact hx)
      rwa [show i * 64 + (32 + j) = i * 64 + 32 + j by omega] at this
section
variable {α : Type} (nd : α → α → α)
theorem climbsP_snoc : ∀ (ds : List Bool) (x : α) (ps : List α) (d : Bool) (p : α), ds.length = ps.length →
    climbsP nd x (ds ++ [d]) (ps ++ [p]) = climbsP nd x ds ps ++ [if d then (p, climb nd x ds ps) else (climb nd x ds ps, p)]
  | [], x, [], d, p, _ => by cases d <;> rfl
  | [], _, _ :: _, _, _, h => by simp at h
  | _ :: _, _, [], _, _, h => by simp at h
  | e :: ds, x, q :: ps, d, p, h => by
    rw [List.cons_append, List.cons_append, climbsP, climbsP_snoc ds _ ps d p (by simpa using h)]
    rfl
end
theorem climbsP_32 : ∀ (ds : List Bool) (x : List UInt8) (ps : List (List UInt8)), x.length = 32 → (∀ p ∈ ps, p.length = 32) → P32 (climbsP nd x ds ps)
  | [], _, _, _, _ => fun _ h => by simp [climbsP] at h
  | _ :: _, _, [], _, _ => fun _ h => by simp [climbsP] at h
  | d :: ds, x, p :: ps, hx, hp => by
    intro q hq
    rw [climbsP, List.mem_cons] at hq
    rcases hq with rfl | hq
    · cases d
      · exact ⟨hx, hp p List.mem_cons_self⟩
      · exact ⟨hp p List.mem_cons_self, hx⟩
    · exact climbsP_32 ds _ ps (by cases d <;> exact sha_length _) (fun y hy => hp y (List.mem_cons_of_mem _ hy)) q hq
end Go.Proofs.YtmlpldkgennmkaaDoor
