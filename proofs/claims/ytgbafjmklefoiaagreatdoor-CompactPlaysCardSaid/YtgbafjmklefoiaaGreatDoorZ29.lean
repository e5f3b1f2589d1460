/- cartularylaw01.Book: what all kinds of lists share: the book's own row of lists, rows of marks, a list and its longer one. cartularylaw01.Book over hashes: the mark, and whether it is there. cartularylaw01.Book, kind Hash: fill. cartularylaw01.Book, kind Hash: grow. -/
import Derived.Test.YtgbafjmklefoiaaGreatDoorZ28
import Derived.Test.YtgbafjmklefoiaaGreatDoorZ07
import Derived.Test.YtgbafjmklefoiaaGreatDoorZ17
import Derived.Laws.OwnMore
import Derived.Test.YtgbafjmklefoiaaGreatDoorZ08
section
namespace Go.Proofs.YtgbafjmklefoiaaGreatDoor
set_option maxRecDepth 100000
open Go.RowKit
def updK (l : Nat → Value) (j : Nat) (x : Value) : Nat → Value := fun i => if i = j then x else l i
def ownBK (b : Nat) (v : Value) (i j : Nat) : Nat → Option Nat := fun k => if k = b then some i else ownOf v j k
theorem ownBK_one (b : Nat) (v : Value) (i j : Nat) : ownBK b v i j b = some i := by unfold ownBK; rw [if_pos rfl]
theorem ownBK_two {b : Nat} {v : Value} {i j k : Nat} (h : v.ownBlock = some k) (hb : k ≠ b) : ownBK b v i j k = some j := by unfold ownBK; rw [if_neg hb, ownOf_at _ _ _ h]
theorem ownBK_none {b : Nat} {v : Value} {i j k : Nat} (h : v.ownBlock ≠ some k) (hb : k ≠ b) : ownBK b v i j k = none := by unfold ownBK; rw [if_neg hb, ownOf_not _ _ _ h]
theorem Since.keepBK {b : Nat} {v : Value} {i j : Nat} {own : Nat → Option Nat} {w0 w : World} (s : Since (ownBK b v i j) w0 own w) : Keep (fun k => k = b ∨ v.ownBlock = some k) w0 w :=
  ⟨s.os, s.tape, s.output, s.size, fun k hk hn => s.keep k hk (ownBK_none (fun e => hn (.inr e)) (fun e => hn (.inl e)))⟩
theorem grownW_setCellK {own : Nat → Option Nat} {w : World} {i j base : Nat} {e : TypeId} {size : Nat} {v : Value} {n : Nat} {xs : List Value} {v0 : Value} {B : Nat} (h : GrownW own w i base e size v n xs v0 B) (b o : Nat) (x : Value) (hb : own b = some j) (hj : j ≠ i) : GrownW own (w.setCell ⟨b, o, none⟩ x) i base e size v n xs v0 B := by
  refine ⟨⟨ownsRow_setCell_ne h.1.1 ⟨b, o, none⟩ x (fun k hk e => ?_), h.1.2⟩, h.2⟩
  have e' : k = b := e
  subst e'
  rcases h.1.2 k hk with h1 | h1
  · rw [hb] at h1; exact hj (Option.some.inj h1)
  · rw [hb] at h1; cases h1
theorem own_shapeK {w : World} {base : Nat} {e : TypeId} {size n : Nat} {v : Value} {xs : List Value} (h : w.ownsRow base e size v n xs) : ∃ a c, v = .slice a n c ∧ n ≤ c ∧ c ≤ maxLen ∧ True := by
  obtain ⟨hl, ⟨h0, h1⟩ | ⟨g, c, cur, e1, h1, h2, h3, h4, h5, h6⟩⟩ := h
  · exact ⟨none, 0, by rw [h0, h1], by omega, by simp, trivial⟩
  · exact ⟨_, c, e1, h3, h4, trivial⟩
theorem info_partsB {P : Program} {t : TypeId} {z : Value} {s b : Nat} (h : (P.info? t).map (fun i => (i.zero, i.size, i.bytes)) = some (some z, s, b)) : ∃ i, P.info? t = some i ∧ i.zero = some z ∧ i.size = s ∧ i.bytes = b := by
  cases hi : P.info? t with
  | none => simp [hi] at h
  | some i => simp [hi] at h; exact ⟨i, rfl, h.1, h.2.1, h.2.2⟩
def fillX (mk xs : List Value) (k : Nat) : List Value := (List.replicate k mk).flatten ++ xs.drop (k * mk.length)
theorem flat_rep (mk : List Value) (k : Nat) : (List.replicate k mk).flatten.length = k * mk.length := by
  induction k with
  | zero => simp
  | succ k ih => rw [List.replicate_succ, List.flatten_cons, List.length_append, ih, Nat.add_mul]; omega
theorem fillX_zero (mk xs : List Value) : fillX mk xs 0 = xs := by unfold fillX; simp
theorem fillX_step (mk xs : List Value) (k : Nat) (h : (k + 1) * mk.length ≤ xs.length) : setList (fillX mk xs k) (k * mk.length) mk = fillX mk xs (k + 1) := by
  unfold fillX
  have e1 := flat_rep mk k
  have e2 : xs.drop (k * mk.length) = (xs.drop (k * mk.length)).take mk.length ++ xs.drop ((k + 1) * mk.length) := by
    rw [show (k + 1) * mk.length = k * mk.length + mk.length by rw [Nat.add_mul]; omega, ← List.drop_drop, List.take_append_drop]
  rw [← e1, show (List.replicate k mk).flatten.length = (List.replicate k mk).flatten.length + 0 from rfl, setList_app]
  rw [show (List.replicate k mk).flatten.length + 0 = k * mk.length from e1, e2, setList_head _ _ _ (by rw [List.length_take, List.length_drop, Nat.min_eq_left]; rw [Nat.add_mul] at h; omega)]
  rw [show k + 1 = k + 1 from rfl, List.replicate_succ', List.flatten_append]
  simp
def hdRow (V G : Nat → Value) (Kn : Nat → Nat) (m : Nat) : List Value := (List.range m).flatMap fun i => [V i, G i, .int .i64 (Kn i : Int)]
theorem hdRow_get (V G : Nat → Value) (Kn : Nat → Nat) {m i o : Nat} (hi : i < m) (ho : o < 3) : (hdRow V G Kn m)[i * 3 + o]? = [V i, G i, .int .i64 (Kn i : Int)][o]? := by
  unfold hdRow
  rw [flat_get (fun i => [V i, G i, .int .i64 (Kn i : Int)]) 3 (List.range m) i o (by simpa using hi) (fun _ _ => rfl) ho]
  simp
/-- a book's lists of one kind (field J) in memory -/
structure BkL (J : Nat) (HT e : TypeId) (size : Nat) (base : Nat) (w : World) (b n : Nat) (l : Nat → Value) (m : Nat) (V : Nat → Value) (N : Nat → Nat) (X : Nat → List Value) (G : Nat → Value) (Kn : Nat → Nat) : Prop where
  bk : BkP w b (n : Int) l
  row : w.ownsRow base HT 3 (l J) m (hdRow V G Kn m)
  li : ∀ i, i < m → w.ownsRow base e size (V i) (N i) (X i)
  sep : ∀ i, i < m → ∀ j, j < m → i ≠ j → ∀ k, (V i).ownBlock = some k → (V j).ownBlock ≠ some k
  nb : ∀ i, i < m → ∀ k, (V i).ownBlock = some k → k ≠ b ∧ (l J).ownBlock ≠ some k
  gs : ∀ i, i < m → ∃ a n c, G i = .slice a n c
  ht : HT ≠ 51
section
variable {J : Nat} {HT e : TypeId} {size : Nat}
theorem BkL.turn {base : Nat} {w w' : World} {b n : Nat} {l : Nat → Value} {m : Nat} {V : Nat → Value} {N : Nat → Nat} {X Y : Nat → List Value} {G : Nat → Value} {Kn : Nat → Nat} (h : BkL J HT e size base w b n l m V N X G Kn) {t : Nat} (ht : t < m) (k : Keep (fun j => (V t).ownBlock = some j) w w')
    (hY : ∀ i, i ≠ t → Y i = X i) (hr : w'.ownsRow base e size (V t) (N t) (Y t)) : BkL J HT e size base w' b n l m V N Y G Kn :=
  ⟨⟨(k.block b (Array.getElem?_eq_some_iff.1 h.bk.hb).1 (fun e => (h.nb t ht b e).1 rfl)).trans h.bk.hb⟩, ownsRow_keep' h.row fun j hj => k.block j (ownsRow_lt h.row j hj) (fun e => (h.nb t ht j e).2 hj), fun i hi => by
    by_cases e : i = t
    · subst e; exact hr
    · rw [hY i e]; exact ownsRow_keep' (h.li i hi) fun j hj => k.block j (ownsRow_lt (h.li i hi) j hj) (fun e2 => h.sep i hi t ht e j hj e2), h.sep, h.nb, h.gs, h.ht⟩
theorem BkL.keep {base : Nat} {w w' : World} {b n n' : Nat} {l l' : Nat → Value} {m : Nat} {V : Nat → Value} {N : Nat → Nat} {X : Nat → List Value} {G : Nat → Value} {Kn : Nat → Nat} (h : BkL J HT e size base w b n l m V N X G Kn) {S : Nat → Prop} (k : Keep S w w') (hb : BkP w' b (n' : Int) l') (hl : l' J = l J)
    (h1 : ∀ j, (l J).ownBlock = some j → ¬ S j) (h2 : ∀ i, i < m → ∀ j, (V i).ownBlock = some j → ¬ S j) : BkL J HT e size base w' b n' l' m V N X G Kn :=
  ⟨hb, by rw [hl]; exact ownsRow_keep' h.row fun j hj => k.block j (ownsRow_lt h.row j hj) (h1 j hj), fun i hi => ownsRow_keep' (h.li i hi) fun j hj => k.block j (ownsRow_lt (h.li i hi) j hj) (h2 i hi j hj), h.sep, fun i hi j hj => by rw [hl]; exact h.nb i hi j hj, h.gs, h.ht⟩
theorem BkL.of {base : Nat} {w : World} {b n : Nat} {l : Nat → Value} {m : Nat} {V : Nat → Value} {N : Nat → Nat} {X Y : Nat → List Value} {G : Nat → Value} {Kn : Nat → Nat} (h : BkL J HT e size base w b n l m V N X G Kn) (hX : ∀ i, i < m → X i = Y i) : BkL J HT e size base w b n l m V N Y G Kn :=
  ⟨h.bk, h.row, fun i hi => by rw [← hX i hi]; exact h.li i hi, h.sep, h.nb, h.gs, h.ht⟩
end
theorem wrap_succB (t : Nat) (h : t < 9223372036854775807) : wrap64 ((t : Int) + 1) = ((t + 1 : Nat) : Int) := by unfold wrap64; omega
theorem hd_range {w : World} {base : Nat} {la : Option Addr} {lc m : Nat} {V G : Nat → Value} {Kn : Nat → Nat} {T : TypeId} (h : w.ownsRow base T 3 (.slice la m lc) m (hdRow V G Kn m)) {t : Nat} (ht : t < m) :
    ∃ g, la = some ⟨g, 0, none⟩ ∧ g < w.heap.size ∧ w.rangeAt g (t * 3) [V t, G t, .int .i64 (Kn t : Int)] := by
  rcases id h.2 with ⟨_, h0⟩ | ⟨g, c', cur, e1, _, hb, _⟩
  · omega
  · cases e1
    obtain ⟨cur2, hG⟩ := rowG_of h
    refine ⟨g, rfl, (Array.getElem?_eq_some_iff.1 hb).1, fun j v hv => ?_⟩
    have hj : j < 3 := by simpa using (List.getElem?_eq_some_iff.1 hv).1
    exact hG.cell (by rw [hdRow_get V G Kn ht hj, hv])
def marks (mk : List Value) (k : Nat) : List Value := (List.replicate k mk).flatten
theorem marks_succ (mk : List Value) (k : Nat) : marks mk (k + 1) = marks mk k ++ mk := by unfold marks; rw [List.replicate_succ', List.flatten_append]; simp
theorem marks_take (mk : List Value) (n k : Nat) : (marks mk (n + k)).take (n * mk.length) = marks mk n := by
  unfold marks
  rw [← List.replicate_append_replicate, List.flatten_append, ← flat_rep mk n, List.take_left]
theorem own_prefix {w : World} {base : Nat} {e : TypeId} {size g n k cap : Nat} {ys : List Value} (h : w.ownsRow base e size (.slice (some ⟨g, 0, none⟩) (n + k) cap) (n + k) ys) : w.ownsRow base e size (.slice (some ⟨g, 0, none⟩) n cap) n (ys.take (n * size)) := by
  obtain ⟨cur, hG⟩ := rowG_of h
  refine RowG.own (cur := cur) ⟨hG.hb, hG.bb, Nat.le_trans (Nat.le_add_right n k) hG.nc, hG.cm, hG.sz, ?_, ?_⟩
  · rw [← hG.tk, List.take_take, Nat.min_eq_left (by rw [Nat.add_mul]; omega)]
  · rw [List.length_take, hG.ln, Nat.min_eq_left (by rw [Nat.add_mul]; omega)]
structure LongP (w1 w : World) (base : Nat) (e : TypeId) (size : Nat) (v : Value) (n : Nat) (mk : List Value) (lv : Value) (k : Nat) : Prop where
  short : w.ownsRow base e size v n (marks mk n)
  long : w.ownsRow base e size lv (n + k) (marks mk (n + k))
  lies : (∃ g cap, v = .slice (some ⟨g, 0, none⟩) n cap ∧ lv = .slice (some ⟨g, 0, none⟩) (n + k) cap) ∨ (k = 0 ∧ lv = v) ∨ ∀ j, lv.ownBlock = some j → w1.heap.size ≤ j
  keep : Keep (fun j => v.ownBlock = some j) w1 w
theorem LongP.step {w1 w w' : World} {base : Nat} {e : TypeId} {size : Nat} {v : Value} {n : Nat} {mk : List Value} {lv lv' : Value} {k : Nat} (h : LongP w1 w base e size v n mk lv k) (hm : mk.length = size) (hv : ∀ j, v.ownBlock = some j → j < w1.heap.size)
    (ha : AppTwo w w' base e size lv (n + k) 1 (marks mk (n + k) ++ mk) lv') : LongP w1 w' base e size v n mk lv' (k + 1) := by
  obtain ⟨h1, h2⟩ := ha
  rw [← marks_succ] at h1
  rcases h2 with ⟨g, cap, e1, e2, hg⟩ | ⟨hg, hn⟩
  · have kg : Keep (fun j => j = g) w w' := ⟨hg.os, hg.tape, hg.output, hg.size, fun j hj hn => hg.block j hj (fun e => hn (Option.some.inj e))⟩
    have hin : (∃ cap', v = .slice (some ⟨g, 0, none⟩) n cap' ∧ cap' = cap ∧ True) ∨ w1.heap.size ≤ g := by
      rcases h.lies with ⟨g', c', f1, f2⟩ | f | f
      · rw [e1] at f2; cases f2; exact .inl ⟨_, f1, rfl, trivial⟩
      · obtain ⟨rfl, f⟩ := f
        exact .inl ⟨cap, by rw [← f, e1]; rfl, rfl, trivial⟩
      · exact .inr (f g (by rw [e1]; rfl))
    rcases hin with ⟨_, f1, rfl, _⟩ | hge
    · have hp := own_prefix (n := n) (k := k + 1) (by rw [e2] at h1; exact h1)
      rw [show n + k + 1 = n + (k + 1) from rfl, ← hm, marks_take, hm] at hp
      refine ⟨by rw [f1]; exact hp, h1, .inl ⟨g, _, f1, by rw [e2]; rfl⟩, h.keep.trans kg (fun j _ e => by rw [f1, e]; rfl)⟩
    · refine ⟨ownsRow_keep' h.short fun j hj => kg.block j (ownsRow_lt h.short j hj) (fun e => by have := hv j hj; omega), h1, .inr (.inr fun j hj => by rw [e2] at hj; cases hj; exact hge), ⟨kg.os.trans h.keep.os, kg.tape.trans h.keep.tape, kg.output.trans h.keep.output, Nat.le_trans h.keep.size kg.size, fun j hj hn => (kg.block j (Nat.lt_of_lt_of_le hj h.keep.size) (by omega)).trans (h.keep.block j hj hn)⟩⟩
  · have kg : Keep (fun _ => False) w w' := ⟨hg.os, hg.tape, hg.output, hg.size, fun j hj _ => hg.block j hj (by simp)⟩
    exact ⟨ownsRow_keep' h.short fun j hj => kg.block j (ownsRow_lt h.short j hj) (fun h => h), h1, .inr (.inr fun j hj => Nat.le_trans h.keep.size (hn j hj)), h.keep.trans kg (fun _ _ h => h.elim)⟩
def updG (G : Nat → Value) (t : Nat) (x : Value) : Nat → Value := fun i => if i = t then x else G i
theorem hdRow_set (V G : Nat → Value) (Kn : Nat → Nat) {m t : Nat} (ht : t < m) (x : Value) : (hdRow V G Kn m).set (t * 3 + 1) x = hdRow V (updG G t x) Kn m := by
  refine List.ext_getElem? fun j => ?_
  have hl : ∀ G, (hdRow V G Kn m).length = m * 3 := fun G => by unfold hdRow; rw [flat_len _ 3 _ (fun _ _ => rfl)]; simp
  by_cases hj : j < m * 3
  · have e : j = j / 3 * 3 + j % 3 := by omega
    have h1 : j / 3 < m := by omega
    have h2 : j % 3 < 3 := by omega
    rw [List.getElem?_set, hl]
    by_cases he : t * 3 + 1 = j
    · have e1 : j / 3 = t := by omega
      have e2 : j % 3 = 1 := by omega
      rw [if_pos he, if_pos (by omega), e, hdRow_get V _ Kn h1 h2, e1, e2]
      simp [updG]
    · rw [if_neg he, e, hdRow_get V _ Kn h1 h2, hdRow_get V _ Kn h1 h2]
      unfold updG
      by_cases e1 : j / 3 = t
      · rw [if_pos e1]
        rcases (show j % 3 = 0 ∨ j % 3 = 2 by omega) with e2 | e2 <;> rw [e2] <;> rfl
      · rw [if_neg e1]
  · rw [List.getElem?_eq_none (by rw [List.length_set, hl]; omega), List.getElem?_eq_none (by rw [hl]; omega)]
theorem LongP.below {w1 w w' : World} {base : Nat} {e : TypeId} {size : Nat} {v : Value} {n : Nat} {mk : List Value} {lv : Value} {k : Nat} (h : LongP w1 w base e size v n mk lv k) (b : Below w.heap.size w w') : LongP w1 w' base e size v n mk lv k :=
  ⟨ownsRow_keep' h.short fun j hj => b.block j (ownsRow_lt h.short j hj), ownsRow_keep' h.long fun j hj => b.block j (ownsRow_lt h.long j hj), h.lies, h.keep.trans (Keep.of_below b (fun j => v.ownBlock = some j)) (fun _ _ h => h)⟩
section
variable {J : Nat} {HT e : TypeId} {size : Nat}
/-- the book's own block is not that of its row -/
theorem BkL.nr {base : Nat} {w : World} {b n : Nat} {l : Nat → Value} {m : Nat} {V : Nat → Value} {N : Nat → Nat} {X : Nat → List Value} {G : Nat → Value} {Kn : Nat → Nat} (h : BkL J HT e size base w b n l m V N X G Kn) : (l J).ownBlock ≠ some b := by
  intro e
  rcases h.row.2 with ⟨h0, _⟩ | ⟨g, c, cur, e1, _, h2, _⟩
  · rw [h0] at e; cases e
  · rw [e1] at e
    have eg : g = b := by simpa [Value.ownBlock] using e
    rw [eg, h.bk.hb] at h2
    injection h2 with h2
    injection h2 with _ h2
    exact h.ht h2.symm
/-- one list's longer one laid down -/
theorem BkL.lay {base : Nat} {w : World} {b n : Nat} {l : Nat → Value} {m : Nat} {V : Nat → Value} {N : Nat → Nat} {X : Nat → List Value} {G : Nat → Value} {Kn : Nat → Nat} (h : BkL J HT e size base w b n l m V N X G Kn) {gl lc : Nat} (hs : l J = .slice (some ⟨gl, 0, none⟩) m lc) {t : Nat} (ht : t < m) {a : Option Addr} {k c : Nat} :
    BkL J HT e size base (w.setCell ⟨gl, t * 3 + 1, none⟩ (.slice a k c)) b n l m V N X (updG G t (.slice a k c)) Kn := by
  have hne : b ≠ gl := fun e => h.nr (by rw [hs, e]; rfl)
  have hr := h.row
  rw [hs] at hr
  obtain ⟨cur, hG⟩ := rowG_of hr
  have h2 := (hG.setW (t * 3 + 1) (.slice a k c)).own
  rw [hdRow_set V G Kn ht] at h2
  refine ⟨⟨by rw [← h.bk.hb]; simp [World.setCell, Array.getElem?_modify, Ne.symm hne]⟩, by rw [hs]; exact h2, fun i hi => ownsRow_setCell_ne (h.li i hi) _ _ (fun j hj e => (h.nb i hi j hj).2 (by rw [hs, e]; rfl)), h.sep, h.nb, fun i hi => ?_, h.ht⟩
  unfold updG
  split
  · exact ⟨_, _, _, rfl⟩
  · exact h.gs i hi
end
theorem quiet_load_midB {P : Program} {C : World → Prop} {o : Oper} {a : Act} {K : Act → Prop} (ty : TypeId) (x : Operand) (ho : o.op = .load ty x)
    (g q : Nat) (hx : a.eval x = .pointer (some ⟨g, q, none⟩)) (cs : List Value) (d : TypeDesc) (hg : ∀ w, C w → w.rangeAt g q cs)
    (hu : P.underlying ty = some d) (hd : d.isRow = true) (hi : (P.info? ty).map (·.size) = some cs.length)
    (h : K (a.put o.dst (.agg cs.toArray))) : o.quiet P a C K := by
  refine ⟨.agg cs.toArray, fun w hw => ?_, h⟩
  unfold Oper.quietAt execOp
  simp only [ho, hx, Instr.loadAt, Instr.sureAddr, Sem.run_bind, Sem.run_pure, Result.andThen_ok, run_loadVar_mid w g q ty cs d (hg w hw) hu hd hi, Oper.quietUpon]
  exact ⟨trivial, trivial⟩
theorem marks_get (mk : List Value) {n k o : Nat} (hk : k < n) (ho : o < mk.length) : (marks mk n)[k * mk.length + o]? = mk[o]? := by
  have h := flat_get (fun x : List Value => x) mk.length (List.replicate n mk) k o (by simpa using hk) (fun x hx => by rw [(List.mem_replicate.1 hx).2]) ho
  have e : (List.replicate n mk).flatMap (fun x => x) = marks mk n := by unfold marks; exact List.flatMap_id'
  rw [e] at h
  rw [h]
  simp
theorem own_mark {w : World} {base : Nat} {e : TypeId} {size n c : Nat} {a : Option Addr} {mk : List Value} (h : w.ownsRow base e size (.slice a n c) n (marks mk n)) (hm : mk.length = size) {k : Nat} (hk : k < n) :
    ∃ g, a = some ⟨g, 0, none⟩ ∧ g < w.heap.size ∧ w.rangeAt g (k * size) mk := by
  rcases id h.2 with ⟨_, h0⟩ | ⟨g, c', cur, e1, _, hb, _⟩
  · omega
  · cases e1
    obtain ⟨cur2, hG⟩ := rowG_of h
    refine ⟨g, rfl, (Array.getElem?_eq_some_iff.1 hb).1, fun j v hv => ?_⟩
    have hj : j < mk.length := (List.getElem?_eq_some_iff.1 hv).1
    exact hG.cell (by rw [← hm, marks_get mk hk hj, hv])
/-- a row of marks in place of what was filled -/
theorem fillX_marks (mk xs : List Value) (k : Nat) (h : xs.length = k * mk.length) : fillX mk xs k = marks mk k := by
  unfold fillX marks
  rw [List.drop_eq_nil_of_le (by rw [h]; exact Nat.le_refl _), List.append_nil]
end Go.Proofs.YtgbafjmklefoiaaGreatDoor
end
section
namespace Go.Proofs.YtgbafjmklefoiaaGreatDoor
set_option maxRecDepth 100000
open Go.RowKit
/-- the mark's bytes -/
def mkHB (n : Nat) : List UInt8 := [UInt8.ofNat n, UInt8.ofNat (n / 256), UInt8.ofNat (n / 65536), 0, 0, 0, 0, 0, 0, 0, 0, 0, 0, 0, 0, 0, 0, 0, 0, 0, 0, 0, 0, 0, 0, 0, 0, 0, 0, 0, 0, 201]
def mkHash (n : Nat) : Array Value := ocells (mkHB n)
theorem mkHB_len (n : Nat) : (mkHB n).length = 32 := rfl
theorem mkHash_len (n : Nat) : (mkHash n).toList.length = 32 := rfl
theorem mkHash_one (n : Nat) : (mkHash n).all (·.oneCell') = true := ocells_one _
theorem wrap8_of (n : Nat) : IntKind.u8.wrap (n : Int) = ((UInt8.ofNat n).toNat : Int) := by
  simp [IntKind.wrap, IntKind.bits, IntKind.signed]
theorem built_mkHash (a b c : Int) : Tryz.prog.built 81 [(0, .int .u8 a), (1, .int .u8 b), (2, .int .u8 c), (31, .int .u8 201)] = some #[.int .u8 a, .int .u8 b, .int .u8 c, .int .u8 0, .int .u8 0, .int .u8 0, .int .u8 0, .int .u8 0, .int .u8 0, .int .u8 0, .int .u8 0, .int .u8 0, .int .u8 0, .int .u8 0, .int .u8 0, .int .u8 0, .int .u8 0, .int .u8 0, .int .u8 0, .int .u8 0, .int .u8 0, .int .u8 0, .int .u8 0, .int .u8 0, .int .u8 0, .int .u8 0, .int .u8 0, .int .u8 0, .int .u8 0, .int .u8 0, .int .u8 0, .int .u8 201] := by kernel_rfl
theorem built_mkH (n : Nat) : Tryz.prog.built 81 [(0, .int .u8 ((UInt8.ofNat n).toNat : Int)), (1, .int .u8 ((UInt8.ofNat (n / 256)).toNat : Int)), (2, .int .u8 ((UInt8.ofNat (n / 65536)).toNat : Int)), (31, .int .u8 201)] = some (mkHash n) := by
  rw [built_mkHash]
  rfl
theorem byte1 (n : Nat) (hn : n ≤ 100000000) : wrap64 ((n : Int) / 256) % 256 = ((UInt8.ofNat (n / 256)).toNat : Int) := by
  have h : wrap64 ((n : Int) / 256) = ((n / 256 : Nat) : Int) := by unfold wrap64; omega
  rw [h]
  simp
theorem byte2 (n : Nat) (hn : n ≤ 100000000) : wrap64 ((n : Int) / 65536) % 256 = ((UInt8.ofNat (n / 65536)).toNat : Int) := by
  have h : wrap64 ((n : Int) / 65536) = ((n / 65536 : Nat) : Int) := by unfold wrap64; omega
  rw [h]
  simp
theorem mkHash_parts (n : Nat) (hn : n ≤ 100000000) : ∃ c0 : Int, IntKind.u8.wrap (n : Int) = c0 ∧ Tryz.prog.built 81 [(0, .int .u8 c0), (1, .int .u8 (wrap64 ((n : Int) / 256) % 256)), (2, .int .u8 (wrap64 ((n : Int) / 65536) % 256)), (31, .int .u8 201)] = some (mkHash n) :=
  ⟨_, wrap8_of n, by rw [byte1 n hn, byte2 n hn]; exact built_mkH n⟩
set_option maxHeartbeats 1600000 in
theorem markHash_any (w : World) (n : Nat) (hn : n ≤ 100000000) : Calls Tryz.prog 81 #[.int .i64 (n : Int)] w fun e w' => e = .returned (.agg (mkHash n)) ∧ Below w.heap.size w w' := by
  obtain ⟨c0, e0, hb⟩ := mkHash_parts n hn
  have HB := Bx.mk hb
  clear hb hn
  obtain ⟨MK, hMK⟩ : ∃ MK, MK = mkHash n := ⟨_, rfl⟩
  have SZ : Bx ((Tryz.prog.info? 81).map (·.size) = some MK.size) := ⟨by rw [hMK]; exact hszL (mkHB_len n)⟩
  have ONE : Bx (MK.all (·.oneCell') = true) := ⟨by rw [hMK]; exact mkHash_one n⟩
  rw [← hMK] at HB ⊢
  clear hMK
  go_enter Tryz.func81, Tryz.ntmps81
  go_upto_region 1 with (fail)
  change Code.wp _ _ _ _ (w.alloc (.cells zeros32 81))
  obtain ⟨Z, hZ⟩ : ∃ Z : Array Value, Z = zeros32 := ⟨_, rfl⟩
  rw [← hZ]
  have ZS : Bx (Z.size = MK.size) := ⟨by rw [hZ]; have h := SZ.out; rw [sizeH] at h; exact Option.some.inj h⟩
  clear hZ
  go_wp2_with (first
    | (guard_target =~ wpList _ _ _ (⟨some 11, _, _, _, _, _⟩ :: _) _ _; refine wpList_build_c (by simp [Region.wanted]) 81 #[(0, .tmp 4), (1, .tmp 7), (2, .tmp 10), (31, .const (.int .u8 201))] rfl MK (by simp only [List.map_toArray, List.map_cons, List.map_nil]; exact HB.out) ?_)
    | (guard_target =~ wpList _ _ _ (⟨none, _, _, _, _, _⟩ :: _) _ _; refine wpList_store_row rfl 81 (.tmp 2) (.tmp 11) rfl w.heap.size MK rfl rfl _ Z (heap_alloc_new _ _) SZ.out ZS.out ONE.out ?_; rw [setRow_alloc_new _ _ _ _ _ rfl]))
  refine bodyPost_ret (results_cell_row rfl _ _ w.heap.size _ MK _ _ rfl (heap_alloc_new _ _) underH rfl SZ.out) rfl ⟨rfl, er_al (Below.refl _ _) _⟩
set_option maxHeartbeats 1600000 in
theorem isHash_any (w : World) (n : Nat) (hn : n ≤ 100000000) : Calls Tryz.prog 87 #[.agg (mkHash n), .int .i64 (n : Int)] w fun e w' => e = .returned (.bool true) ∧ Below w.heap.size w w' := by
  obtain ⟨c0, e0, hb⟩ := mkHash_parts n hn
  have HB := Bx.mk hb
  clear hb hn
  have q : ∀ u, (binOp .eql 81 (.agg (mkHash n)) (.agg (mkHash n))).run Tryz.prog u = .ok (.bool true) u := fun u => by
    have h := hv_eq u (mkHB n) (mkHB n) (mkHB_len n) (mkHB_len n)
    rw [beq_self_eq_true] at h
    exact h
  obtain ⟨MK, hMK⟩ : ∃ MK, MK = mkHash n := ⟨_, rfl⟩
  have SZ : Bx ((Tryz.prog.info? 81).map (·.size) = some MK.size) := ⟨by rw [hMK]; exact hszL (mkHB_len n)⟩
  rw [← hMK] at HB q ⊢
  clear hMK
  have xN := heap_alloc_new w (.cells MK 81)
  have kb := er_al (Below.refl w.heap.size w) (.cells MK 81)
  go_enter Tryz.func87, Tryz.ntmps87
  go_upto_region 1 with (fail)
  change Code.wp _ _ _ _ (w.alloc (.cells MK 81))
  generalize w.alloc (.cells MK 81) = W at xN kb ⊢
  obtain ⟨N, hN⟩ : ∃ N, N = w.heap.size := ⟨_, rfl⟩
  rw [← hN] at xN ⊢
  have XN := Bx.mk xN; have KB := Bx.mk kb
  clear xN kb hN
  go_wp2_with (first
    | (guard_target =~ wpList _ _ _ (⟨some 5, _, _, _, _, _⟩ :: _) _ _; refine wpList_load_row rfl 81 (.tmp 2) rfl N rfl _ _ _ _ XN.out underH rfl SZ.out ?_)
    | (guard_target =~ wpList _ _ _ (⟨some 14, _, _, _, _, _⟩ :: _) _ _; refine wpList_build_c (by simp [Region.wanted]) 81 #[(0, .tmp 7), (1, .tmp 10), (2, .tmp 13), (31, .const (.int .u8 201))] rfl MK (by simp only [List.map_toArray, List.map_cons, List.map_nil]; exact HB.out) ?_))
  go_ret
  exact ⟨rfl, KB.out⟩
end Go.Proofs.YtgbafjmklefoiaaGreatDoor
end
section
namespace Go.Proofs.YtgbafjmklefoiaaGreatDoor
set_option maxRecDepth 100000
open Go.RowKit
theorem mkHashL (n : Nat) : (mkHash n).toList.length = 32 := mkHash_len n
theorem mkHashS (n : Nat) : (Tryz.prog.info? 81).map (·.size) = some (mkHash n).size := by rw [show (mkHash n).size = 32 from (Array.length_toList ..).symm.trans (mkHash_len n)]; kernel_rfl
theorem mkHashA (n : Nat) : (mkHash n).all (·.oneCell') = true := mkHash_one n
theorem mkHashE (n : Nat) : ∀ u ∈ (mkHash n).toList, u.oneCell' = true := fun u hu => by
  have h := mkHashA n
  rw [Array.all_eq_true_iff_forall_mem] at h
  exact h u (by simpa using hu)
set_option maxHeartbeats 3200000 in
theorem fillHash_any (base : Nat) (w : World) (b n : Nat) (l : Nat → Value) (m : Nat) (V : Nat → Value) (N : Nat → Nat) (X : Nat → List Value) (G : Nat → Value) (Kn : Nat → Nat) (h : BkL 5 129 81 32 base w b n l m V N X G Kn) (hbase : base ≤ w.heap.size) (hm : m ≤ 100000000) (hN : ∀ i, i < m → N i ≤ 100000000 ∧ Kn i ≤ 100000000) :
    Calls Tryz.prog 35 #[.pointer (some ⟨b, 0, none⟩)] w fun e w' => e = .returned (.tuple #[]) ∧ BkL 5 129 81 32 base w' b n l m V N (fun i => fillX (mkHash (Kn i)).toList (X i) (N i)) G Kn ∧ Keep (fun k => ∃ i, i < m ∧ (V i).ownBlock = some k) w w' := by
  have HH := Bx.mk h; have MB := Bx.mk hm; have NB := Bx.mk hN; have HBS := Bx.mk hbase
  clear h hm hN hbase
  go_enter Tryz.func35, Tryz.ntmps35
  go_wp2_with fail
  go_loopw [2] (fun iv wr => ∃ t : Nat, t ≤ m ∧ iv = .int .i64 (t : Int) ∧ BkL 5 129 81 32 base wr b n l m V N (fun i => if i < t then fillX (mkHash (Kn i)).toList (X i) (N i) else X i) G Kn ∧ Keep (fun k => ∃ i, i < m ∧ (V i).ownBlock = some k) w wr) (fun iv _ => m - (intOf iv).toNat)
  case atStart => exact ⟨0, Nat.zero_le _, rfl, (by simpa using HH.out), Keep.refl _ _⟩
  case round =>
    obtain ⟨t, ht, rfl, hB, hk⟩ := hrel
    obtain ⟨wo, rfl⟩ : ∃ wo, wo = wr := ⟨_, rfl⟩
    have BB := Bx.mk hB; have KK := Bx.mk hk
    obtain ⟨la, lc, hs, -, -, -⟩ := own_shapeK hB.row
    have HS := Bx.mk hs
    have cJ : wo.cell? ⟨b, 5, none⟩ = some (.slice la m lc) := by rw [← hs]; exact er_cellAt hB.bk.hb 5 _ rfl
    clear hB hk hs
    by_cases hlt : t < m
    · have hro := BB.out.row
      rw [HS.out] at hro
      obtain ⟨gl, rfl, hgl, hrg⟩ := hd_range hro hlt
      obtain ⟨va, vc, hv, -, -, -⟩ := own_shapeK (BB.out.li t hlt)
      obtain ⟨nt, hnt⟩ : ∃ nt, nt = N t := ⟨_, rfl⟩
      obtain ⟨kt, hkt⟩ : ∃ kt, kt = Kn t := ⟨_, rfl⟩
      obtain ⟨ga, gn, gc, hg⟩ : ∃ ga gn gc, G t = .slice ga gn gc := BB.out.gs t hlt
      rw [hv, hg, ← hnt, ← hkt] at hrg
      have RG := Bx.mk hrg; have TL := Bx.mk hlt; have HV := Bx.mk hv; have HNT := Bx.mk hnt; have HKT := Bx.mk hkt
      have f1 : (t : Int) < (m : Int) := by omega
      clear hro hgl hrg hv hnt hkt hg hlt ht
      go_wp2_with (first
        | (guard_target =~ wpList _ _ _ (⟨some 20, _, _, _, _, _⟩ :: _) _ _; refine wpList_load_mid rfl 129 (.tmp 19) rfl gl (t * 3) rfl _ _ RG.out Tryz.underlying129 rfl (by kernel_rfl) ?_)
        | (guard_target =~ wpList _ _ _ (⟨none, _, _, _, _, _⟩ :: _) _ _; refine wpList_store_row rfl 129 (.tmp 3) (.tmp 20) rfl wo.heap.size #[.slice va nt vc, .slice ga gn gc, .int .i64 (kt : Int)] rfl rfl _ #[.slice none 0 0, .slice none 0 0, .int .i64 0] (heap_alloc_new _ _) (by kernel_rfl) rfl (by simp [Value.oneCell']) ?_; rw [setRow_alloc_new _ _ _ _ rfl]))
      have h1 := er_al (Below.refl wo.heap.size wo) (.cells #[.slice va nt vc, .slice ga gn gc, .int .i64 (kt : Int)] 129)
      have h2 := heap_alloc_new wo (.cells #[.slice va nt vc, .slice ga gn gc, .int .i64 (kt : Int)] 129)
      generalize wo.alloc (.cells #[.slice va nt vc, .slice ga gn gc, .int .i64 (kt : Int)] 129) = W1 at h1 h2 ⊢
      obtain ⟨H, hH⟩ : ∃ H, H = wo.heap.size := ⟨_, rfl⟩
      rw [← hH] at h2 ⊢
      obtain ⟨x0, hx0⟩ : ∃ x0, x0 = X t := ⟨_, rfl⟩
      obtain ⟨MK, hMK⟩ : ∃ MK, MK = (mkHash kt).toList := ⟨_, rfl⟩
      have MKL : Bx (MK.length = 32) := ⟨by rw [hMK]; exact mkHashL kt⟩
      have ho : W1.ownsRow base 81 32 (.slice va nt vc) nt (fillX MK x0 0) := by
        have h := BB.out.li t TL.out
        simp only [Nat.lt_irrefl, if_false] at h
        rw [HV.out, ← HNT.out, ← hx0] at h
        rw [fillX_zero]
        exact ownsRow_keep' h fun j hj => h1.block j (ownsRow_lt h j hj)
      have OLT := Bx.mk (show ∀ j, (Value.slice va nt vc).ownBlock = some j → j < H from fun j hj => by
        have h := BB.out.li t TL.out
        rw [HV.out, ← HNT.out] at h
        rw [hH]; exact ownsRow_lt h j hj)
      have K1 := Bx.mk h1; have H1 := Bx.mk h2; have HH2 := Bx.mk hH; have HX0 := Bx.mk hx0; have HMK := Bx.mk hMK; have O1 := Bx.mk ho
      have NT := Bx.mk (show nt ≤ 100000000 ∧ kt ≤ 100000000 by rw [HNT.out, HKT.out]; exact NB.out t TL.out)
      clear h1 h2 hH hx0 hMK ho cJ f1
      go_loopw [4] (fun kv wq => ∃ k : Nat, k ≤ nt ∧ kv = .int .i64 (k : Int) ∧ wq.ownsRow base 81 32 (.slice va nt vc) nt (fillX MK x0 k) ∧ wq.heap[H]? = some (.cells #[.slice va nt vc, .slice ga gn gc, .int .i64 (kt : Int)] 129 (0, 0)) ∧ Keep (fun j => (Value.slice va nt vc).ownBlock = some j) W1 wq) (fun kv _ => nt - (intOf kv).toNat)
      case atStart => exact ⟨0, Nat.zero_le _, rfl, O1.out, H1.out, Keep.refl _ _⟩
      case round =>
        obtain ⟨k, hk, rfl, ho, hh, hkp⟩ := hrel
        have OQ := Bx.mk ho; have HQ := Bx.mk hh; have KQ := Bx.mk hkp
        have c0 := er_cellAt hh 0 _ rfl
        clear ho hkp
        by_cases hlt : k < nt
        · obtain ⟨g, rfl⟩ : ∃ g, va = some ⟨g, 0, none⟩ := by
            rcases id OQ.out.2 with ⟨_, h0⟩ | ⟨g, c', cur, e1, _⟩
            · omega
            · cases e1; exact ⟨g, rfl⟩
          obtain ⟨cur, hG⟩ := rowG_of OQ.out
          have c2 := er_cellAt hh 2 _ rfl
          have d0 : ∀ u : Blw wr.heap.size wr, u.w.cell? ⟨H, 0, none⟩ = some (.slice (some ⟨g, 0, none⟩) nt vc) := fun u => (u.h.cell (p := ⟨H, 0, none⟩) (Array.getElem?_eq_some_iff.1 hh).1).trans c0
          have d2 : ∀ u : Blw wr.heap.size wr, u.w.cell? ⟨H, 2, none⟩ = some (.int .i64 (kt : Int)) := fun u => (u.h.cell (p := ⟨H, 2, none⟩) (Array.getElem?_eq_some_iff.1 hh).1).trans c2
          have ne := Blw.ne wr.heap.size wr
          have CM : Bx (∀ u, Below wr.heap.size wr u → Calls Tryz.prog 81 #[.int .i64 (kt : Int)] u fun e w' => e = .returned (.agg (mkHash kt)) ∧ Below u.heap.size u w') := ⟨fun u _ => markHash_any u kt NT.out.2⟩
          have RG2 := Bx.mk hG; have KL := Bx.mk hlt
          have f1 : (k : Int) < (nt : Int) := by omega
          have HL := Bx.mk (Array.getElem?_eq_some_iff.1 hh).1
          clear hG hlt hk hh
          go_upto_region 7 with (fail)
          refine wp_region_quiet_tail (C := fun w' => ∃ u : Blw wr.heap.size wr, w' = u.w) 7 (by kernel_rfl) (by kernel_rfl) ⟨⟨_, (Below.refl _ _).drew⟩, rfl⟩ ?_
          simp only [List.take_succ_cons, List.take_zero, List.drop_succ_cons, List.drop_zero]
          iterate 5 go_big_quiet_step (fail)
          go_big_quiet_step (exact Calls.blw (Nat.le_refl _) CM.out)
          go_big_quiet_step (fail)
          refine wpQuiet_nil ?_
          rintro _ ⟨u, rfl⟩
          have hG5 := RG2.out.kept (u.h.block g (Array.getElem?_eq_some_iff.1 RG2.out.hb).1)
          have hrm := hG5.there (o := k * 32) (m := 32) (by have := KL.out; omega)
          obtain ⟨cur2, hG6⟩ := hG5.setCells (mkHash kt).toList (k * 32)
          have hxl : x0.length = nt * 32 := by have h := O1.out.1; rw [fillX_zero] at h; exact h
          have hst := fillX_step MK x0 k (by rw [MKL.out, hxl]; have := KL.out; omega)
          rw [MKL.out] at hst
          have OWN := Bx.mk (show (u.w.setCells g (k * 32) (mkHash kt).toList).ownsRow base 81 32 (.slice (some ⟨g, 0, none⟩) nt vc) nt (fillX MK x0 (k + 1)) by rw [← hst, HMK.out]; have h := hG6.own; rw [HMK.out] at h; exact h)
          have KS := keep_setCells g (mkHash kt).toList (k * 32) u.w
          have gH : g < H := OLT.out g rfl
          have HX := Bx.mk (show (u.w.setCells g (k * 32) (mkHash kt).toList).heap[H]? = _ from (KS.block H (Nat.lt_of_lt_of_le HL.out u.h.size) (by omega)).trans ((u.h.block H HL.out).trans HQ.out))
          have KP := Bx.mk (KQ.out.trans ((Keep.of_below u.h (fun j => (Value.slice (some ⟨g, 0, none⟩) nt vc).ownBlock = some j)).trans (KS.mono (S' := fun j => (Value.slice (some ⟨g, 0, none⟩) nt vc).ownBlock = some j) (fun j _ hj => by subst hj; rfl)) (fun _ _ h => h)) (fun _ _ h => h))
          have RM := Bx.mk hrm
          clear hG5 hrm hG6 hxl hst KS gH d0 d2 c0 c2 ne f1
          go_wp2_with (guard_target =~ wpList _ _ _ (⟨none, _, _, _, _, _⟩ :: _) _ _; refine wpList_store_mid rfl 81 (.tmp 34) (.tmp 33) rfl g (k * 32) (mkHash kt) rfl rfl RM.out (mkHashS kt) (mkHashA kt) ?_)
          go_roundw
          case rel => exact ⟨k + 1, KL.out, (by rw [wrap_succB k (by have := KL.out; have := NT.out.1; omega)]), OWN.out, HX.out, KP.out⟩
          case measure => rw [wrap_succB k (by have := KL.out; have := NT.out.1; omega)]; have := KL.out; simp [intOf]; omega
        · have KE := Bx.mk (show k = nt by omega)
          have f1 : ¬ (k : Int) < (nt : Int) := by omega
          clear hlt hk hh
          go_wp2_with fail
          go_roundw
          case rel => exact ⟨t + 1, TL.out, (by rw [wrap_succB t (by have := TL.out; have := MB.out; omega)]), BB.out.turn TL.out (by rw [HV.out, ← HNT.out]; exact (Keep.of_below K1.out (fun j => (Value.slice va nt vc).ownBlock = some j)).trans KQ.out (fun _ _ h => h)) (fun i e => by
              have : (i < t + 1) = (i < t) := by rw [eq_iff_iff]; omega
              simp only [this]) (by
              simp only [Nat.lt_succ_self, if_true]
              have h := OQ.out
              rw [KE.out, HX0.out, HMK.out, HKT.out] at h
              rw [HV.out, ← HNT.out]; exact h), KK.out.trans (((Keep.of_below K1.out (fun j => (Value.slice va nt vc).ownBlock = some j)).trans KQ.out (fun _ _ h => h)).mono (S' := fun k => ∃ i, i < m ∧ (V i).ownBlock = some k) (fun j _ hj => ⟨t, TL.out, by rw [HV.out, ← HNT.out]; exact hj⟩)) (fun _ _ h => h)⟩
          case measure => rw [wrap_succB t (by have := TL.out; have := MB.out; omega)]; have := TL.out; simp [intOf]; omega
    · obtain rfl : t = m := by omega
      clear ht hlt
      go_wp2_with fail
      go_end0
      exact ⟨rfl, ⟨BB.out.bk, BB.out.row, fun i hi => by have h := BB.out.li i hi; simpa [hi] using h, BB.out.sep, BB.out.nb, BB.out.gs, BB.out.ht⟩, KK.out⟩
end Go.Proofs.YtgbafjmklefoiaaGreatDoor
end
section
namespace Go.Proofs.YtgbafjmklefoiaaGreatDoor
set_option maxRecDepth 100000
open Go.RowKit
theorem bs_mkHash (w : World) (n : Nat) : (Instr.buildSlice 55 1 #[(0, .agg (mkHash n))]).run Tryz.prog w = .ok (.slice (some ⟨w.heap.size, 0, none⟩) 1 1) (w.alloc (.cells (mkHash n) 81)) := by kernel_rfl
theorem run_bs_mkHash {o : Oper} {a : Act} (w : World) (x : Operand) (ho : o.op = .buildSlice 55 1 #[(0, x)]) (n : Nat) (hx : a.eval x = .agg (mkHash n)) :
    (execOp a.eval o).run Tryz.prog w = .ok (.value (.slice (some ⟨w.heap.size, 0, none⟩) 1 1)) (w.alloc (.cells (mkHash n) 81)) := by
  have hr := bs_mkHash w n
  unfold execOp
  simp only [ho, List.map_toArray, List.map_cons, List.map_nil, hx, Sem.run_bind, hr, Result.andThen_ok, Sem.run_pure]
theorem info_mkHashB : (Tryz.prog.info? 81).map (fun i => (i.zero, i.size, i.bytes)) = some (some (.agg zeros32), 32, 32) := by kernel_rfl
set_option maxHeartbeats 3200000 in
theorem growHash_any (base : Nat) (w : World) (b n : Nat) (l : Nat → Value) (m : Nat) (V : Nat → Value) (N : Nat → Nat) (G : Nat → Value) (Kn : Nat → Nat) (h : BkL 5 129 81 32 base w b n l m V N (fun i => marks (mkHash (Kn i)).toList (N i)) G Kn) (hbase : base ≤ w.heap.size) (hm : m ≤ 100000000) (hN : ∀ i, i < m → N i ≤ 100000000 ∧ Kn i ≤ 100000000) :
    Calls Tryz.prog 51 #[.pointer (some ⟨b, 0, none⟩)] w fun e w' => e = .returned (.tuple #[]) ∧ ∃ G', BkL 5 129 81 32 base w' b n l m V N (fun i => marks (mkHash (Kn i)).toList (N i)) G' Kn ∧ (∀ i, i < m → w'.ownsRow base 81 32 (G' i) (N i + 70) (marks (mkHash (Kn i)).toList (N i + 70)) ∧ ∀ k, (G' i).ownBlock = some k → (V i).ownBlock = some k ∨ w.heap.size ≤ k) ∧ Keep (fun k => (∃ i, i < m ∧ (V i).ownBlock = some k) ∨ (l 5).ownBlock = some k) w w' := by
  have HH := Bx.mk h; have MB := Bx.mk hm; have NB := Bx.mk hN; have HBS := Bx.mk hbase
  have VL := Bx.mk (fun i (hi : i < m) j (hj : (V i).ownBlock = some j) => ownsRow_lt (h.li i hi) j hj)
  have LL := Bx.mk (fun j (hj : (l 5).ownBlock = some j) => ownsRow_lt h.row j hj)
  clear h hm hN hbase
  go_enter Tryz.func51, Tryz.ntmps51
  go_wp2_with fail
  go_loopw [2] (fun iv wr => ∃ (t : Nat) (G' : Nat → Value), t ≤ m ∧ iv = .int .i64 (t : Int) ∧ BkL 5 129 81 32 base wr b n l m V N (fun i => marks (mkHash (Kn i)).toList (N i)) G' Kn ∧ (∀ i, i < t → wr.ownsRow base 81 32 (G' i) (N i + 70) (marks (mkHash (Kn i)).toList (N i + 70)) ∧ ∀ k, (G' i).ownBlock = some k → (V i).ownBlock = some k ∨ w.heap.size ≤ k) ∧ Keep (fun k => (∃ i, i < m ∧ (V i).ownBlock = some k) ∨ (l 5).ownBlock = some k) w wr) (fun iv _ => m - (intOf iv).toNat)
  case atStart => exact ⟨0, G, Nat.zero_le _, rfl, HH.out, (fun i hi => absurd hi (Nat.not_lt_zero _)), Keep.refl _ _⟩
  case round =>
    obtain ⟨t, G', ht, rfl, hB, hg, hk⟩ := hrel
    obtain ⟨wo, rfl⟩ : ∃ wo, wo = wr := ⟨_, rfl⟩
    have BB := Bx.mk hB; have KK := Bx.mk hk; have GG := Bx.mk hg
    obtain ⟨la, lc, hs, -, -, -⟩ := own_shapeK hB.row
    have HS := Bx.mk hs
    have cJ : wo.cell? ⟨b, 5, none⟩ = some (.slice la m lc) := by rw [← hs]; exact er_cellAt hB.bk.hb 5 _ rfl
    clear hB hk hs hg
    by_cases hlt : t < m
    · have hro := BB.out.row
      rw [HS.out] at hro
      obtain ⟨gl, rfl, hgl, hrg⟩ := hd_range hro hlt
      obtain ⟨va, vc, hv, -, -, -⟩ := own_shapeK (BB.out.li t hlt)
      obtain ⟨nt, hnt⟩ : ∃ nt, nt = N t := ⟨_, rfl⟩
      obtain ⟨kt, hkt⟩ : ∃ kt, kt = Kn t := ⟨_, rfl⟩
      obtain ⟨ga, gn, gc, hg⟩ : ∃ ga gn gc, G' t = .slice ga gn gc := BB.out.gs t hlt
      rw [hv, hg, ← hnt, ← hkt] at hrg
      have RG := Bx.mk hrg; have TL := Bx.mk hlt; have HV := Bx.mk hv; have HNT := Bx.mk hnt; have HKT := Bx.mk hkt
      have f1 : (t : Int) < (m : Int) := by omega
      clear hro hgl hrg hv hnt hkt hg hlt ht
      go_upto_region 4 with (first
        | (guard_target =~ wpList _ _ _ (⟨some 21, _, _, _, _, _⟩ :: _) _ _; refine wpList_load_mid rfl 129 (.tmp 20) rfl gl (t * 3) rfl _ _ RG.out Tryz.underlying129 rfl (by kernel_rfl) ?_)
        | (guard_target =~ wpList _ _ _ (⟨none, _, _, _, _, _⟩ :: _) _ _; refine wpList_store_row rfl 129 (.tmp 3) (.tmp 21) rfl wo.heap.size #[.slice va nt vc, .slice ga gn gc, .int .i64 (kt : Int)] rfl rfl _ #[.slice none 0 0, .slice none 0 0, .int .i64 0] (heap_alloc_new _ _) (by kernel_rfl) rfl (by simp [Value.oneCell']) ?_; rw [setRow_alloc_new _ _ _ _ rfl]))
      have h1 := er_al (Below.refl wo.heap.size wo) (.cells #[.slice va nt vc, .slice ga gn gc, .int .i64 (kt : Int)] 129)
      have h2 := heap_alloc_new wo (.cells #[.slice va nt vc, .slice ga gn gc, .int .i64 (kt : Int)] 129)
      generalize wo.alloc (.cells #[.slice va nt vc, .slice ga gn gc, .int .i64 (kt : Int)] 129) = W1 at h1 h2 ⊢
      obtain ⟨H, hH⟩ : ∃ H, H = wo.heap.size := ⟨_, rfl⟩
      rw [← hH] at h2 ⊢
      have K1 := Bx.mk h1
      have H1 := Bx.mk h2
      have HH2 := Bx.mk hH
      have e0 := er_cellAt h2 0 _ rfl
      clear h1 h2 hH cJ f1
      go_wp2_with fail
      obtain ⟨MK, hMK⟩ : ∃ MK, MK = (mkHash kt).toList := ⟨_, rfl⟩
      have MKL : Bx (MK.length = 32) := ⟨by rw [hMK]; exact mkHashL kt⟩
      have HMK := Bx.mk hMK
      have ho : LongP W1 W1 base 81 32 (.slice va nt vc) nt MK (.slice va nt vc) 0 := by
        have h := BB.out.li t TL.out
        rw [HV.out, ← HNT.out, ← HKT.out, ← hMK] at h
        have h3 := ownsRow_keep' h fun j hj => K1.out.block j (ownsRow_lt h j hj)
        exact ⟨h3, h3, .inr (.inl ⟨rfl, rfl⟩), Keep.refl _ _⟩
      have O1 := Bx.mk ho
      have NT := Bx.mk (show nt ≤ 100000000 ∧ kt ≤ 100000000 by rw [HNT.out, HKT.out]; exact NB.out t TL.out)
      have OLT := Bx.mk (show ∀ j, (Value.slice va nt vc).ownBlock = some j → j < H from fun j hj => by
        have h := BB.out.li t TL.out
        rw [HV.out, ← HNT.out] at h
        rw [HH2.out]; exact ownsRow_lt h j hj)
      clear hMK ho e0
      go_loopw [4, 5] (fun lv kv wq => ∃ k : Nat, k ≤ 70 ∧ kv = .int .i64 (k : Int) ∧ LongP W1 wq base 81 32 (.slice va nt vc) nt MK lv k) (fun _ kv _ => 70 - (intOf kv).toNat)
      case atStart => exact ⟨0, by decide, rfl, O1.out⟩
      case round =>
        obtain ⟨k, hk, rfl, hL⟩ := hrel
        obtain ⟨a4, c4, rfl, -, -, -⟩ := own_shapeK hL.long
        have LP := Bx.mk hL
        have hh := (hL.keep.block H (Array.getElem?_eq_some_iff.1 H1.out).1 (fun e => by have := OLT.out H e; omega)).trans H1.out
        have c2 := er_cellAt hh 2 _ rfl
        clear hL hh
        by_cases hlt : k < 70
        · have KL := Bx.mk hlt
          have f1 : (k : Int) < 70 := by omega
          clear hlt hk
          go_wp2_with fail
          refine (markHash_any wr kt NT.out.2).mono ?_
          rintro e wq ⟨rfl, hb⟩
          have LA := Bx.mk ((LP.out.below hb).below (er_al (Below.refl wq.heap.size wq) (.cells (mkHash kt) 81)))
          have NEWS : Bx (∀ j u, MK[j]? = some u → (wq.alloc (.cells (mkHash kt) 81)).cell? ((⟨wq.heap.size, 0, none⟩ : Addr).add j) = some u) := ⟨fun j u hu => by
            rw [HMK.out, Array.getElem?_toList] at hu
            have := er_cellAt (heap_alloc_new wq (.cells (mkHash kt) 81)) j u hu
            rw [Addr.add_mid, Nat.zero_add]
            exact this⟩
          have ONE : Bx (∀ u ∈ MK, u.oneCell' = true) := ⟨by rw [HMK.out]; exact mkHashE kt⟩
          obtain ⟨i0, ri1, ri2, ri3, ri4⟩ := info_partsB info_mkHashB
          have RI := Bx.mk (And.intro ri1 (And.intro ri2 (And.intro ri3 ri4)))
          have BQ := Bx.mk (show base ≤ (wq.alloc (.cells (mkHash kt) 81)).heap.size by have h1 := HBS.out; have h2 := KK.out.size; have h3 := K1.out.size; have h4 := LP.out.keep.size; have h5 := hb.size; simp; omega)
          clear hb ri1 ri2 ri3 ri4 c2 f1
          go_wp2_with (first | (guard_target =~ wpList _ _ _ (⟨some 32, _, _, _, _, _⟩ :: _) _ _; refine wpList_run_c (by simp [Region.wanted]) _ (run_bs_mkHash wq (.tmp 31) rfl kt rfl) ?_) | (at_builtin; refine wpList_append_apw _ rfl _ _ 55 rfl base 81 i0 (.agg zeros32) 32 32 Tryz.underlying55 RI.out.1 RI.out.2.1 RI.out.2.2.1 RI.out.2.2.2 rfl (by decide) (.slice a4 (nt + k) c4) (nt + k) (marks MK (nt + k)) rfl LA.out.long ⟨wq.heap.size, 0, none⟩ 1 1 MK rfl MKL.out NEWS.out ONE.out (by have := NT.out.1; have := KL.out; unfold maxLen; omega) (by have := NT.out.1; have := KL.out; omega) BQ.out ?_; intro lv2 w2 happ; have APP := Bx.mk happ; clear happ))
          go_roundw
          case rel => exact ⟨k + 1, KL.out, (by rw [wrap_succB k (by have := KL.out; omega)]), LA.out.step MKL.out (fun j hj => Nat.lt_of_lt_of_le (OLT.out j hj) (by have := K1.out.size; have := HH2.out; omega)) APP.out⟩
          case measure => rw [wrap_succB k (by have := KL.out; omega)]; have := KL.out; simp [intOf]; omega
        · have KE : k = 70 := by omega
          have f1 : ¬ (k : Int) < 70 := by omega
          have f2 : (t : Int) < (m : Int) := by have := TL.out; omega
          have kp : Keep (fun j => (V t).ownBlock = some j) wo wr := by rw [HV.out, ← HNT.out]; exact (Keep.of_below K1.out (fun j => (Value.slice va nt vc).ownBlock = some j)).trans LP.out.keep (fun _ _ h => h)
          have hB5 : BkL 5 129 81 32 base wr b n l m V N (fun i => marks (mkHash (Kn i)).toList (N i)) G' Kn := BB.out.turn TL.out kp (fun _ _ => rfl) (by
            have h := LP.out.short
            rw [HMK.out, HKT.out] at h
            rw [HV.out, ← HNT.out]; exact h)
          have c6 : wr.cell? ⟨b, 5, none⟩ = some (.slice (some ⟨gl, 0, none⟩) m lc) := by rw [← HS.out]; exact er_cellAt hB5.bk.hb 5 _ rfl
          have hro := hB5.row
          rw [HS.out] at hro
          obtain ⟨g2, e2, -, hrg⟩ := hd_range hro TL.out
          cases e2
          have c1 : wr.cell? ⟨gl, t * 3 + 1, none⟩ = some (G' t) := hrg 1 _ rfl
          obtain ⟨cur, hG⟩ := rowG_of hro
          have f3 := frozenC hG.hb (t * 3 + 1)
          have B5 := Bx.mk hB5; have KP := Bx.mk kp; have KE2 := Bx.mk KE
          clear hB5 hro hrg hG kp KE hlt hk c2
          go_wp2_with fail
          go_roundw
          case rel =>
            have glw := LL.out gl (by rw [HS.out]; rfl)
            have low : ∀ j, (Value.slice a4 (nt + k) c4).ownBlock = some j → (V t).ownBlock = some j ∨ W1.heap.size ≤ j := fun j hj => by
              rcases LP.out.lies with ⟨g, cap, h1, h2⟩ | ⟨_, h2⟩ | h2
              · rw [HV.out, ← HNT.out, h1]; rw [h2] at hj; exact .inl hj
              · rw [HV.out, ← HNT.out, ← h2]; exact .inl hj
              · exact .inr (h2 j hj)
            have hsz : w.heap.size ≤ W1.heap.size := Nat.le_trans KK.out.size K1.out.size
            have ngl : ∀ i, i < m → ∀ j, ((V i).ownBlock = some j ∨ w.heap.size ≤ j) → j ≠ gl := fun i hi j hj e => by
              subst e
              rcases hj with hj | hj
              · exact (BB.out.nb i hi j hj).2 (by rw [HS.out]; rfl)
              · omega
            refine ⟨t + 1, updG G' t (.slice a4 (nt + k) c4), TL.out, (by rw [wrap_succB t (by have := TL.out; have := MB.out; omega)]), B5.out.lay HS.out TL.out, fun i hi => ?_, ?_⟩
            · unfold updG
              by_cases e : i = t
              · subst e
                rw [if_pos rfl]
                refine ⟨?_, fun j hj => (low j hj).imp id (fun h => Nat.le_trans hsz h)⟩
                have h := LP.out.long
                rw [HMK.out, HKT.out, KE2.out, HNT.out] at h
                rw [KE2.out, HNT.out]
                refine ownsRow_setCell_ne h _ _ (fun j hj => ngl i TL.out j ?_)
                exact (low j (by rw [KE2.out, HNT.out]; exact hj)).imp id (fun h => Nat.le_trans hsz h)
              · rw [if_neg e]
                have hit : i < t := by omega
                obtain ⟨h1, h2⟩ := GG.out i hit
                refine ⟨ownsRow_setCell_ne (ownsRow_keep' h1 fun j hj => KP.out.block j (ownsRow_lt h1 j hj) (fun e3 => ?_)) _ _ (fun j hj => ngl i (Nat.lt_trans hit TL.out) j (h2 j hj)), h2⟩
                rcases h2 j hj with h3 | h3
                · exact BB.out.sep i (Nat.lt_trans hit TL.out) t TL.out e j h3 e3
                · have := VL.out t TL.out j e3; omega
            · refine (KK.out.trans (KP.out.mono (S' := fun k => (∃ i, i < m ∧ (V i).ownBlock = some k) ∨ (l 5).ownBlock = some k) (fun j _ hj => .inl ⟨t, TL.out, hj⟩)) (fun _ _ h => h)).trans ((Keep.setCell wr ⟨gl, t * 3 + 1, none⟩ _).mono (S' := fun k => (∃ i, i < m ∧ (V i).ownBlock = some k) ∨ (l 5).ownBlock = some k) (fun j _ hj => .inr (by rw [HS.out, hj]; rfl))) (fun _ _ h => h)
          case measure => rw [wrap_succB t (by have := TL.out; have := MB.out; omega)]; have := TL.out; simp [intOf]; omega
    · obtain rfl : t = m := by omega
      clear ht hlt
      go_wp2_with fail
      go_end0
      exact ⟨rfl, G', BB.out, fun i hi => GG.out i hi, KK.out⟩
end Go.Proofs.YtgbafjmklefoiaaGreatDoor
end
