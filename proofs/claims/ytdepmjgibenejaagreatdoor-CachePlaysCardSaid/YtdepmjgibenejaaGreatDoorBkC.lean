/- cartularylaw01.Book: what all kinds of lists share: the book's own row of lists, rows of marks, a list and its longer one. -/
import Derived.Test.YtdepmjgibenejaaGreatDoorBkA
import Derived.Test.YtdepmjgibenejaaGreatDoorOwn9
import Derived.Test.YtdepmjgibenejaaGreatDoorApw
import Derived.Test.YtdepmjgibenejaaGreatDoorCaQ
import Derived.Laws.OwnMore
namespace Go.Proofs.YtdepmjgibenejaaGreatDoor
set_option maxRecDepth 100000
open Go.RowKit
def updK (l : Nat → Value) (j : Nat) (x : Value) : Nat → Value := fun i => if i = j then x else l i
def ownBK (b : Nat) (v : Value) (i j : Nat) : Nat → Option Nat := fun k => if k = b then some i else ownOf v j k
theorem ownBK_one (b : Nat) (v : Value) (i j : Nat) : ownBK b v i j b = some i := by unfold ownBK; rw [if_pos rfl]
theorem ownBK_two {b : Nat} {v : Value} {i j k : Nat} (h : v.ownBlock = some k) (hb : k ≠ b) : ownBK b v i j k = some j := by unfold ownBK; rw [if_neg hb, ownOf_at _ _ _ h]
theorem ownBK_none {b : Nat} {v : Value} {i j k : Nat} (h : v.ownBlock ≠ some k) (hb : k ≠ b) : ownBK b v i j k = none := by unfold ownBK; rw [if_neg hb, ownOf_not _ _ _ h]
theorem Since.keepBK {b : Nat} {v : Value} {i j : Nat} {own : Nat → Option Nat} {w0 w : World} (s : Since (ownBK b v i j) w0 own w) : Keep (fun k => k = b ∨ v.ownBlock = some k) w0 w :=
  ⟨s.os, s.tape, s.output, s.size, fun k hk hn => s.keep k hk (ownBK_none (fun e => hn (.inr e)) (fun e => hn (.inl e)))⟩
theorem grownW_setCellK {own : Nat → Option Nat} {w : World} {i j base : Nat} {e : TypeId} {size : Nat} {v : Value} {n : Nat} {xs : List Value} {v0 : Value} {B : Nat} (h : GrownW own w i base e size v n xs v0 B) (b o : Nat) (x : Value) (hb : own b = some j) (hj : j ≠ i) : GrownW own (w.setCell ⟨b, o, none⟩ x) i base e size v n xs v0 B := by
  refine ⟨⟨ownsRow_setCell_ne h.1.1 ⟨b, o, none⟩ x (fun k hk e => ?_), h.1.2⟩, h.2⟩
  have e' : k = b := e
  subst e'
  rcases h.1.2 k hk with h1 | h1
  · rw [hb] at h1; exact hj (Option.some.inj h1)
  · rw [hb] at h1; cases h1
theorem own_shapeK {w : World} {base : Nat} {e : TypeId} {size n : Nat} {v : Value} {xs : List Value} (h : w.ownsRow base e size v n xs) : ∃ a c, v = .slice a n c ∧ n ≤ c ∧ c ≤ maxLen ∧ True := by
  obtain ⟨hl, ⟨h0, h1⟩ | ⟨g, c, cur, e1, h1, h2, h3, h4, h5, h6⟩⟩ := h
  · exact ⟨none, 0, by rw [h0, h1], by omega, by simp, trivial⟩
  · exact ⟨_, c, e1, h3, h4, trivial⟩
theorem info_partsB {P : Program} {t : TypeId} {z : Value} {s b : Nat} (h : (P.info? t).map (fun i => (i.zero, i.size, i.bytes)) = some (some z, s, b)) : ∃ i, P.info? t = some i ∧ i.zero = some z ∧ i.size = s ∧ i.bytes = b := by
  cases hi : P.info? t with
  | none => simp [hi] at h
  | some i => simp [hi] at h; exact ⟨i, rfl, h.1, h.2.1, h.2.2⟩
def fillX (mk xs : List Value) (k : Nat) : List Value := (List.replicate k mk).flatten ++ xs.drop (k * mk.length)
theorem flat_rep (mk : List Value) (k : Nat) : (List.replicate k mk).flatten.length = k * mk.length := by
  induction k with
  | zero => simp
  | succ k ih => rw [List.replicate_succ, List.flatten_cons, List.length_append, ih, Nat.add_mul]; omega
theorem fillX_zero (mk xs : List Value) : fillX mk xs 0 = xs := by unfold fillX; simp
theorem fillX_step (mk xs : List Value) (k : Nat) (h : (k + 1) * mk.length ≤ xs.length) : setList (fillX mk xs k) (k * mk.length) mk = fillX mk xs (k + 1) := by
  unfold fillX
  have e1 := flat_rep mk k
  have e2 : xs.drop (k * mk.length) = (xs.drop (k * mk.length)).take mk.length ++ xs.drop ((k + 1) * mk.length) := by
    rw [show (k + 1) * mk.length = k * mk.length + mk.length by rw [Nat.add_mul]; omega, ← List.drop_drop, List.take_append_drop]
  rw [← e1, show (List.replicate k mk).flatten.length = (List.replicate k mk).flatten.length + 0 from rfl, setList_app]
  rw [show (List.replicate k mk).flatten.length + 0 = k * mk.length from e1, e2, setList_head _ _ _ (by rw [List.length_take, List.length_drop, Nat.min_eq_left]; rw [Nat.add_mul] at h; omega)]
  rw [show k + 1 = k + 1 from rfl, List.replicate_succ', List.flatten_append]
  simp
def hdRow (V G : Nat → Value) (Kn : Nat → Nat) (m : Nat) : List Value := (List.range m).flatMap fun i => [V i, G i, .int .i64 (Kn i : Int)]
theorem hdRow_get (V G : Nat → Value) (Kn : Nat → Nat) {m i o : Nat} (hi : i < m) (ho : o < 3) : (hdRow V G Kn m)[i * 3 + o]? = [V i, G i, .int .i64 (Kn i : Int)][o]? := by
  unfold hdRow
  rw [flat_get (fun i => [V i, G i, .int .i64 (Kn i : Int)]) 3 (List.range m) i o (by simpa using hi) (fun _ _ => rfl) ho]
  simp
/-- a book's lists of one kind (field J) in memory -/
structure BkL (J : Nat) (HT e : TypeId) (size : Nat) (base : Nat) (w : World) (b n : Nat) (l : Nat → Value) (m : Nat) (V : Nat → Value) (N : Nat → Nat) (X : Nat → List Value) (G : Nat → Value) (Kn : Nat → Nat) : Prop where
  bk : BkP w b (n : Int) l
  row : w.ownsRow base HT 3 (l J) m (hdRow V G Kn m)
  li : ∀ i, i < m → w.ownsRow base e size (V i) (N i) (X i)
  sep : ∀ i, i < m → ∀ j, j < m → i ≠ j → ∀ k, (V i).ownBlock = some k → (V j).ownBlock ≠ some k
  nb : ∀ i, i < m → ∀ k, (V i).ownBlock = some k → k ≠ b ∧ (l J).ownBlock ≠ some k
  gs : ∀ i, i < m → ∃ a n c, G i = .slice a n c
  ht : HT ≠ 77
section
variable {J : Nat} {HT e : TypeId} {size : Nat}
theorem BkL.turn {base : Nat} {w w' : World} {b n : Nat} {l : Nat → Value} {m : Nat} {V : Nat → Value} {N : Nat → Nat} {X Y : Nat → List Value} {G : Nat → Value} {Kn : Nat → Nat} (h : BkL J HT e size base w b n l m V N X G Kn) {t : Nat} (ht : t < m) (k : Keep (fun j => (V t).ownBlock = some j) w w')
    (hY : ∀ i, i ≠ t → Y i = X i) (hr : w'.ownsRow base e size (V t) (N t) (Y t)) : BkL J HT e size base w' b n l m V N Y G Kn :=
  ⟨⟨(k.block b (Array.getElem?_eq_some_iff.1 h.bk.hb).1 (fun e => (h.nb t ht b e).1 rfl)).trans h.bk.hb⟩, ownsRow_keep' h.row fun j hj => k.block j (ownsRow_lt h.row j hj) (fun e => (h.nb t ht j e).2 hj), fun i hi => by
    by_cases e : i = t
    · subst e; exact hr
    · rw [hY i e]; exact ownsRow_keep' (h.li i hi) fun j hj => k.block j (ownsRow_lt (h.li i hi) j hj) (fun e2 => h.sep i hi t ht e j hj e2), h.sep, h.nb, h.gs, h.ht⟩
theorem BkL.keep {base : Nat} {w w' : World} {b n n' : Nat} {l l' : Nat → Value} {m : Nat} {V : Nat → Value} {N : Nat → Nat} {X : Nat → List Value} {G : Nat → Value} {Kn : Nat → Nat} (h : BkL J HT e size base w b n l m V N X G Kn) {S : Nat → Prop} (k : Keep S w w') (hb : BkP w' b (n' : Int) l') (hl : l' J = l J)
    (h1 : ∀ j, (l J).ownBlock = some j → ¬ S j) (h2 : ∀ i, i < m → ∀ j, (V i).ownBlock = some j → ¬ S j) : BkL J HT e size base w' b n' l' m V N X G Kn :=
  ⟨hb, by rw [hl]; exact ownsRow_keep' h.row fun j hj => k.block j (ownsRow_lt h.row j hj) (h1 j hj), fun i hi => ownsRow_keep' (h.li i hi) fun j hj => k.block j (ownsRow_lt (h.li i hi) j hj) (h2 i hi j hj), h.sep, fun i hi j hj => by rw [hl]; exact h.nb i hi j hj, h.gs, h.ht⟩
theorem BkL.of {base : Nat} {w : World} {b n : Nat} {l : Nat → Value} {m : Nat} {V : Nat → Value} {N : Nat → Nat} {X Y : Nat → List Value} {G : Nat → Value} {Kn : Nat → Nat} (h : BkL J HT e size base w b n l m V N X G Kn) (hX : ∀ i, i < m → X i = Y i) : BkL J HT e size base w b n l m V N Y G Kn :=
  ⟨h.bk, h.row, fun i hi => by rw [← hX i hi]; exact h.li i hi, h.sep, h.nb, h.gs, h.ht⟩
end
theorem wrap_succB (t : Nat) (h : t < 9223372036854775807) : wrap64 ((t : Int) + 1) = ((t + 1 : Nat) : Int) := by unfold wrap64; omega
theorem hd_range {w : World} {base : Nat} {la : Option Addr} {lc m : Nat} {V G : Nat → Value} {Kn : Nat → Nat} {T : TypeId} (h : w.ownsRow base T 3 (.slice la m lc) m (hdRow V G Kn m)) {t : Nat} (ht : t < m) :
    ∃ g, la = some ⟨g, 0, none⟩ ∧ g < w.heap.size ∧ w.rangeAt g (t * 3) [V t, G t, .int .i64 (Kn t : Int)] := by
  rcases id h.2 with ⟨_, h0⟩ | ⟨g, c', cur, e1, _, hb, _⟩
  · omega
  · cases e1
    obtain ⟨cur2, hG⟩ := rowG_of h
    refine ⟨g, rfl, (Array.getElem?_eq_some_iff.1 hb).1, fun j v hv => ?_⟩
    have hj : j < 3 := by simpa using (List.getElem?_eq_some_iff.1 hv).1
    exact hG.cell (by rw [hdRow_get V G Kn ht hj, hv])
def marks (mk : List Value) (k : Nat) : List Value := (List.replicate k mk).flatten
theorem marks_succ (mk : List Value) (k : Nat) : marks mk (k + 1) = marks mk k ++ mk := by unfold marks; rw [List.replicate_succ', List.flatten_append]; simp
theorem marks_len (mk : List Value) (k : Nat) : (marks mk k).length = k * mk.length := flat_rep mk k
theorem marks_take (mk : List Value) (n k : Nat) : (marks mk (n + k)).take (n * mk.length) = marks mk n := by
  unfold marks
  rw [← List.replicate_append_replicate, List.flatten_append, ← flat_rep mk n, List.take_left]
theorem own_prefix {w : World} {base : Nat} {e : TypeId} {size g n k cap : Nat} {ys : List Value} (h : w.ownsRow base e size (.slice (some ⟨g, 0, none⟩) (n + k) cap) (n + k) ys) : w.ownsRow base e size (.slice (some ⟨g, 0, none⟩) n cap) n (ys.take (n * size)) := by
  obtain ⟨cur, hG⟩ := rowG_of h
  refine RowG.own (cur := cur) ⟨hG.hb, hG.bb, Nat.le_trans (Nat.le_add_right n k) hG.nc, hG.cm, hG.sz, ?_, ?_⟩
  · rw [← hG.tk, List.take_take, Nat.min_eq_left (by rw [Nat.add_mul]; omega)]
  · rw [List.length_take, hG.ln, Nat.min_eq_left (by rw [Nat.add_mul]; omega)]
structure LongP (w1 w : World) (base : Nat) (e : TypeId) (size : Nat) (v : Value) (n : Nat) (mk : List Value) (lv : Value) (k : Nat) : Prop where
  short : w.ownsRow base e size v n (marks mk n)
  long : w.ownsRow base e size lv (n + k) (marks mk (n + k))
  lies : (∃ g cap, v = .slice (some ⟨g, 0, none⟩) n cap ∧ lv = .slice (some ⟨g, 0, none⟩) (n + k) cap) ∨ (k = 0 ∧ lv = v) ∨ ∀ j, lv.ownBlock = some j → w1.heap.size ≤ j
  keep : Keep (fun j => v.ownBlock = some j) w1 w
theorem LongP.step {w1 w w' : World} {base : Nat} {e : TypeId} {size : Nat} {v : Value} {n : Nat} {mk : List Value} {lv lv' : Value} {k : Nat} (h : LongP w1 w base e size v n mk lv k) (hm : mk.length = size) (hv : ∀ j, v.ownBlock = some j → j < w1.heap.size)
    (ha : AppTwo w w' base e size lv (n + k) 1 (marks mk (n + k) ++ mk) lv') : LongP w1 w' base e size v n mk lv' (k + 1) := by
  obtain ⟨h1, h2⟩ := ha
  rw [← marks_succ] at h1
  rcases h2 with ⟨g, cap, e1, e2, hg⟩ | ⟨hg, hn⟩
  · have kg : Keep (fun j => j = g) w w' := ⟨hg.os, hg.tape, hg.output, hg.size, fun j hj hn => hg.block j hj (fun e => hn (Option.some.inj e))⟩
    have hin : (∃ cap', v = .slice (some ⟨g, 0, none⟩) n cap' ∧ cap' = cap ∧ True) ∨ w1.heap.size ≤ g := by
      rcases h.lies with ⟨g', c', f1, f2⟩ | f | f
      · rw [e1] at f2; cases f2; exact .inl ⟨_, f1, rfl, trivial⟩
      · obtain ⟨rfl, f⟩ := f
        exact .inl ⟨cap, by rw [← f, e1]; rfl, rfl, trivial⟩
      · exact .inr (f g (by rw [e1]; rfl))
    rcases hin with ⟨_, f1, rfl, _⟩ | hge
    · have hp := own_prefix (n := n) (k := k + 1) (by rw [e2] at h1; exact h1)
      rw [show n + k + 1 = n + (k + 1) from rfl, ← hm, marks_take, hm] at hp
      refine ⟨by rw [f1]; exact hp, h1, .inl ⟨g, _, f1, by rw [e2]; rfl⟩, h.keep.trans kg (fun j _ e => by rw [f1, e]; rfl)⟩
    · refine ⟨ownsRow_keep' h.short fun j hj => kg.block j (ownsRow_lt h.short j hj) (fun e => by have := hv j hj; omega), h1, .inr (.inr fun j hj => by rw [e2] at hj; cases hj; exact hge), ⟨kg.os.trans h.keep.os, kg.tape.trans h.keep.tape, kg.output.trans h.keep.output, Nat.le_trans h.keep.size kg.size, fun j hj hn => (kg.block j (Nat.lt_of_lt_of_le hj h.keep.size) (by omega)).trans (h.keep.block j hj hn)⟩⟩
  · have kg : Keep (fun _ => False) w w' := ⟨hg.os, hg.tape, hg.output, hg.size, fun j hj _ => hg.block j hj (by simp)⟩
    exact ⟨ownsRow_keep' h.short fun j hj => kg.block j (ownsRow_lt h.short j hj) (fun h => h), h1, .inr (.inr fun j hj => Nat.le_trans h.keep.size (hn j hj)), h.keep.trans kg (fun _ _ h => h.elim)⟩
def updG (G : Nat → Value) (t : Nat) (x : Value) : Nat → Value := fun i => if i = t then x else G i
theorem hdRow_set (V G : Nat → Value) (Kn : Nat → Nat) {m t : Nat} (ht : t < m) (x : Value) : (hdRow V G Kn m).set (t * 3 + 1) x = hdRow V (updG G t x) Kn m := by
  refine List.ext_getElem? fun j => ?_
  have hl : ∀ G, (hdRow V G Kn m).length = m * 3 := fun G => by unfold hdRow; rw [flat_len _ 3 _ (fun _ _ => rfl)]; simp
  by_cases hj : j < m * 3
  · have e : j = j / 3 * 3 + j % 3 := by omega
    have h1 : j / 3 < m := by omega
    have h2 : j % 3 < 3 := by omega
    rw [List.getElem?_set, hl]
    by_cases he : t * 3 + 1 = j
    · have e1 : j / 3 = t := by omega
      have e2 : j % 3 = 1 := by omega
      rw [if_pos he, if_pos (by omega), e, hdRow_get V _ Kn h1 h2, e1, e2]
      simp [updG]
    · rw [if_neg he, e, hdRow_get V _ Kn h1 h2, hdRow_get V _ Kn h1 h2]
      unfold updG
      by_cases e1 : j / 3 = t
      · rw [if_pos e1]
        rcases (show j % 3 = 0 ∨ j % 3 = 2 by omega) with e2 | e2 <;> rw [e2] <;> rfl
      · rw [if_neg e1]
  · rw [List.getElem?_eq_none (by rw [List.length_set, hl]; omega), List.getElem?_eq_none (by rw [hl]; omega)]
theorem LongP.below {w1 w w' : World} {base : Nat} {e : TypeId} {size : Nat} {v : Value} {n : Nat} {mk : List Value} {lv : Value} {k : Nat} (h : LongP w1 w base e size v n mk lv k) (b : Below w.heap.size w w') : LongP w1 w' base e size v n mk lv k :=
  ⟨ownsRow_keep' h.short fun j hj => b.block j (ownsRow_lt h.short j hj), ownsRow_keep' h.long fun j hj => b.block j (ownsRow_lt h.long j hj), h.lies, h.keep.trans (Keep.of_below b (fun j => v.ownBlock = some j)) (fun _ _ h => h)⟩
section
variable {J : Nat} {HT e : TypeId} {size : Nat}
/-- the book's own block is not that of its row -/
theorem BkL.nr {base : Nat} {w : World} {b n : Nat} {l : Nat → Value} {m : Nat} {V : Nat → Value} {N : Nat → Nat} {X : Nat → List Value} {G : Nat → Value} {Kn : Nat → Nat} (h : BkL J HT e size base w b n l m V N X G Kn) : (l J).ownBlock ≠ some b := by
  intro e
  rcases h.row.2 with ⟨h0, _⟩ | ⟨g, c, cur, e1, _, h2, _⟩
  · rw [h0] at e; cases e
  · rw [e1] at e
    have eg : g = b := by simpa [Value.ownBlock] using e
    rw [eg, h.bk.hb] at h2
    injection h2 with h2
    injection h2 with _ h2
    exact h.ht h2.symm
/-- one list's longer one laid down -/
theorem BkL.lay {base : Nat} {w : World} {b n : Nat} {l : Nat → Value} {m : Nat} {V : Nat → Value} {N : Nat → Nat} {X : Nat → List Value} {G : Nat → Value} {Kn : Nat → Nat} (h : BkL J HT e size base w b n l m V N X G Kn) {gl lc : Nat} (hs : l J = .slice (some ⟨gl, 0, none⟩) m lc) {t : Nat} (ht : t < m) {a : Option Addr} {k c : Nat} :
    BkL J HT e size base (w.setCell ⟨gl, t * 3 + 1, none⟩ (.slice a k c)) b n l m V N X (updG G t (.slice a k c)) Kn := by
  have hne : b ≠ gl := fun e => h.nr (by rw [hs, e]; rfl)
  have hr := h.row
  rw [hs] at hr
  obtain ⟨cur, hG⟩ := rowG_of hr
  have h2 := (hG.setW (t * 3 + 1) (.slice a k c)).own
  rw [hdRow_set V G Kn ht] at h2
  refine ⟨⟨by rw [← h.bk.hb]; simp [World.setCell, Array.getElem?_modify, Ne.symm hne]⟩, by rw [hs]; exact h2, fun i hi => ownsRow_setCell_ne (h.li i hi) _ _ (fun j hj e => (h.nb i hi j hj).2 (by rw [hs, e]; rfl)), h.sep, h.nb, fun i hi => ?_, h.ht⟩
  unfold updG
  split
  · exact ⟨_, _, _, rfl⟩
  · exact h.gs i hi
end
theorem quiet_load_midB {P : Program} {C : World → Prop} {o : Oper} {a : Act} {K : Act → Prop} (ty : TypeId) (x : Operand) (ho : o.op = .load ty x)
    (g q : Nat) (hx : a.eval x = .pointer (some ⟨g, q, none⟩)) (cs : List Value) (d : TypeDesc) (hg : ∀ w, C w → w.rangeAt g q cs)
    (hu : P.underlying ty = some d) (hd : d.isRow = true) (hi : (P.info? ty).map (·.size) = some cs.length)
    (h : K (a.put o.dst (.agg cs.toArray))) : o.quiet P a C K := by
  refine ⟨.agg cs.toArray, fun w hw => ?_, h⟩
  unfold Oper.quietAt execOp
  simp only [ho, hx, Instr.loadAt, Instr.sureAddr, Sem.run_bind, Sem.run_pure, Result.andThen_ok, run_loadVar_mid w g q ty cs d (hg w hw) hu hd hi, Oper.quietUpon]
  exact ⟨trivial, trivial⟩
theorem marks_get (mk : List Value) {n k o : Nat} (hk : k < n) (ho : o < mk.length) : (marks mk n)[k * mk.length + o]? = mk[o]? := by
  have h := flat_get (fun x : List Value => x) mk.length (List.replicate n mk) k o (by simpa using hk) (fun x hx => by rw [(List.mem_replicate.1 hx).2]) ho
  have e : (List.replicate n mk).flatMap (fun x => x) = marks mk n := by unfold marks; exact List.flatMap_id'
  rw [e] at h
  rw [h]
  simp
theorem own_mark {w : World} {base : Nat} {e : TypeId} {size n c : Nat} {a : Option Addr} {mk : List Value} (h : w.ownsRow base e size (.slice a n c) n (marks mk n)) (hm : mk.length = size) {k : Nat} (hk : k < n) :
    ∃ g, a = some ⟨g, 0, none⟩ ∧ g < w.heap.size ∧ w.rangeAt g (k * size) mk := by
  rcases id h.2 with ⟨_, h0⟩ | ⟨g, c', cur, e1, _, hb, _⟩
  · omega
  · cases e1
    obtain ⟨cur2, hG⟩ := rowG_of h
    refine ⟨g, rfl, (Array.getElem?_eq_some_iff.1 hb).1, fun j v hv => ?_⟩
    have hj : j < mk.length := (List.getElem?_eq_some_iff.1 hv).1
    exact hG.cell (by rw [← hm, marks_get mk hk hj, hv])
theorem ownsRow_ge {w : World} {base : Nat} {e : TypeId} {size : Nat} {v : Value} {n : Nat} {xs : List Value} (h : w.ownsRow base e size v n xs) (j : Nat) (hj : v.ownBlock = some j) : base ≤ j := by
  rcases h.2 with ⟨rfl, _⟩ | ⟨g, cap, cur, rfl, hb, _⟩
  · cases hj
  · obtain rfl : g = j := by simpa [Value.ownBlock] using hj
    exact hb
/-- a row of marks in place of what was filled -/
theorem fillX_marks (mk xs : List Value) (k : Nat) (h : xs.length = k * mk.length) : fillX mk xs k = marks mk k := by
  unfold fillX marks
  rw [List.drop_eq_nil_of_le (by rw [h]; exact Nat.le_refl _), List.append_nil]
theorem setCells_one (w : World) (g o : Nat) (v : Value) : w.setCells g o [v] = w.setCell ⟨g, o, none⟩ v := by
  simp [World.setCells]
end Go.Proofs.YtdepmjgibenejaaGreatDoor
