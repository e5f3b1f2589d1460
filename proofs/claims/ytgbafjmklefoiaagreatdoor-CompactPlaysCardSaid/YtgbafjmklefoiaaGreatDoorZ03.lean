/- Bytes, padding, the fold over blocks; what a digest is in memory; how memory is kept. (*sha.Digest).Write: some bytes more. sha.New, (*sha.Digest).Copy. SHA of bytes: padding and the letters of the words (plain). (*sha.Digest).Sum. A slice of bytes of the call's own, said cell by cell (a slice made out of a string bears a mark behind its end): what append does to it. The document's answer, part three: the padded text. The document's answer, part four: SHA of a text. sha.Sum: SHA of texts, one behind the other. -/
import Derived.Test.YtgbafjmklefoiaaGreatDoorZ02
import Derived.Deep.RegionLaw
import Derived.Laws.AppendOwnNone
import Derived.Laws.OwnMore
import Derived.Deep.DeepFit
import Derived.Laws.IdiomStrings
import Derived.Laws.IdiomCopy
section
namespace Go.Proofs.YtgbafjmklefoiaaGreatDoor
set_option maxRecDepth 100000
open Go.RowKit
def bcell (b : UInt8) : Value := .int .u8 (b.toNat : Int)
def bcells (l : List UInt8) : List Value := l.map bcell
def ints (l : List UInt8) : List Int := l.map fun b => (b.toNat : Int)
/-- the words behind the first n blocks of l -/
def fold (s : R8) (l : List UInt8) : Nat → R8
  | 0 => s
  | n + 1 => blk (fold s l n) (ints ((l.drop (64 * n)).take 64))
theorem fold_append (s : R8) (l l' : List UInt8) (n : Nat) (h : 64 * n ≤ l.length) : fold s (l ++ l') n = fold s l n := by
  induction n with
  | zero => rfl
  | succ n ih =>
    rw [fold, fold, ih (by omega)]
    congr 2
    rw [List.drop_append_of_le_length (by omega), List.take_append_of_le_length (by simp; omega)]
theorem ints_getD (l : List UInt8) (i : Nat) (h : i < l.length) : (ints l).getD i 0 = (l[i].toNat : Int) := by simp [ints, h]
theorem bcells_length (l : List UInt8) : (bcells l).length = l.length := by simp [bcells]
theorem bcells_append (l l' : List UInt8) : bcells (l ++ l') = bcells l ++ bcells l' := by simp [bcells]
theorem bcells_get (l : List UInt8) (i : Nat) (h : i < l.length) : (bcells l)[i]? = some (bcell l[i]) := by simp [bcells, h]
theorem bcells_one (l : List UInt8) : ∀ u ∈ bcells l, u.oneCell' = true := by intro u hu; simp [bcells] at hu; obtain ⟨b, _, rfl⟩ := hu; rfl
/-- memory but for the blocks of S (and new ones) is as it was -/
structure Keep (S : Nat → Prop) (w w' : World) : Prop where
  os : w'.os = w.os
  tape : w'.tape = w.tape
  output : w'.output = w.output
  size : w.heap.size ≤ w'.heap.size
  block : ∀ k, k < w.heap.size → ¬ S k → w'.heap[k]? = w.heap[k]?
theorem Keep.refl (S : Nat → Prop) (w : World) : Keep S w w := ⟨rfl, rfl, rfl, Nat.le_refl _, fun _ _ _ => rfl⟩
theorem Keep.trans {S S' : Nat → Prop} {a b c : World} (h : Keep S a b) (h' : Keep S' b c) (hs : ∀ k, k < a.heap.size → S' k → S k) : Keep S a c :=
  ⟨h'.os.trans h.os, h'.tape.trans h.tape, h'.output.trans h.output, Nat.le_trans h.size h'.size,
   fun k hk hn => (h'.block k (Nat.lt_of_lt_of_le hk h.size) (fun hs' => hn (hs k hk hs'))).trans (h.block k hk hn)⟩
theorem Keep.mono {S S' : Nat → Prop} {a b : World} (h : Keep S a b) (hs : ∀ k, k < a.heap.size → S k → S' k) : Keep S' a b :=
  ⟨h.os, h.tape, h.output, h.size, fun k hk hn => h.block k hk (fun h' => hn (hs k hk h'))⟩
theorem Keep.below {S : Nat → Prop} {a b : World} {B : Nat} (h : Keep S a b) (hB : B ≤ a.heap.size) (hs : ∀ k, S k → B ≤ k) : Below B a b :=
  ⟨h.os, h.tape, h.output, h.size, fun k hk => h.block k (by omega) (fun h' => by have := hs k h'; omega)⟩
theorem Keep.of_below {a b : World} (h : Below a.heap.size a b) (S : Nat → Prop) : Keep S a b := ⟨h.os, h.tape, h.output, h.size, fun k hk _ => h.block k hk⟩
theorem Keep.of_grown {a b : World} {r : Option Nat} (h : a.grownBy b r) : Keep (fun k => r = some k) a b := ⟨h.os, h.tape, h.output, h.size, fun k hk hn => h.block k hk (fun e => hn e.symm)⟩
theorem Keep.drewN (S : Nat → Prop) (w : World) (n : Nat) : Keep S w (w.drewN n) := ⟨rfl, rfl, rfl, Nat.le_refl _, fun _ _ _ => rfl⟩
theorem Keep.alloc (S : Nat → Prop) (w : World) (o : Obj) : Keep S w (w.alloc o) := ⟨rfl, rfl, rfl, by simp, fun k hk _ => Below.heap_alloc _ _ _ hk⟩
theorem Keep.setCell (w : World) (a : Addr) (v : Value) : Keep (fun k => k = a.block) w (w.setCell a v) :=
  ⟨rfl, rfl, rfl, by simp [World.setCell], fun k _ hn => Below.heap_setCell _ _ _ _ (fun e => hn e)⟩
theorem Keep.setRow (w : World) (g : Nat) (cs : Array Value) : Keep (fun k => k = g) w (w.setRow g cs) :=
  ⟨rfl, rfl, rfl, by simp, fun k _ hn => setRow_other _ _ _ _ (fun e => hn e)⟩
/-- a value that reads as bytes -/
def Src (w : World) (v : Value) (l : List UInt8) : Prop :=
  ∃ (a : Option Addr) (cap : Nat), v = .slice a l.length cap ∧ l.length ≤ cap ∧ cap ≤ maxLen ∧ (a = none → cap = 0) ∧
    (l ≠ [] → ∃ B off, a = some ⟨B, off, none⟩ ∧ B < w.heap.size ∧ ∀ i, (h : i < l.length) → w.cell? ⟨B, off + i, none⟩ = some (bcell l[i]))
/-- a digest: at block p, its words at block H, the bytes that wait in the slice rv -/
structure DigN (base : Nat) (w : World) (p H : Nat) (rv : Value) (m : List UInt8) (N : Nat) : Prop where
  hp : w.heap[p]? = some (.cells #[.pointer (some ⟨H, 0, none⟩), rv, .int .u64 (N : Int)] 236 (0, 0))
  hH : w.heap[H]? = some (.cells (vals (fold R0 m (m.length / 64)).list) 230 (0, 0))
  hr : w.ownsRow base 5 1 rv (m.length % 64) (bcells (m.drop (64 * (m.length / 64))))
  bp : base ≤ p
  bH : base ≤ H
def Dig (base : Nat) (w : World) (p H : Nat) (rv : Value) (m : List UInt8) : Prop := DigN base w p H rv m m.length
theorem DigN.p_ne_H {base : Nat} {w : World} {p H : Nat} {rv : Value} {m : List UInt8} {N : Nat} (h : DigN base w p H rv m N) : p ≠ H := by
  rintro rfl; have := h.hp.symm.trans h.hH; simp at this
theorem DigN.r_ne {base : Nat} {w : World} {p H : Nat} {rv : Value} {m : List UInt8} {N : Nat} (h : DigN base w p H rv m N) (k : Nat) (hk : rv.ownBlock = some k) : k ≠ p ∧ k ≠ H := by
  rcases h.hr.2 with ⟨rfl, _⟩ | ⟨g, cap, cur, rfl, hg, hh, _⟩
  · cases hk
  · obtain rfl : g = k := by simpa [Value.ownBlock] using hk
    constructor
    · rintro rfl; have := h.hp.symm.trans hh; simp at this
    · rintro rfl; have := h.hH.symm.trans hh; simp at this
theorem DigN.kept {base : Nat} {w w' : World} {p H : Nat} {rv : Value} {m : List UInt8} {N : Nat} (h : DigN base w p H rv m N) {S : Nat → Prop} (k : Keep S w w')
    (h1 : ¬ S p) (h2 : ¬ S H) (h3 : ∀ j, rv.ownBlock = some j → ¬ S j) : DigN base w' p H rv m N := by
  refine ⟨(k.block _ (Array.getElem?_eq_some_iff.1 h.hp).1 h1).trans h.hp, (k.block _ (Array.getElem?_eq_some_iff.1 h.hH).1 h2).trans h.hH, ?_, h.bp, h.bH⟩
  refine ⟨h.hr.1, ?_⟩
  rcases h.hr.2 with hn | ⟨g, cap, cur, rfl, hb, hg, rest⟩
  · exact .inl hn
  · exact .inr ⟨g, cap, cur, rfl, hb, (k.block _ (Array.getElem?_eq_some_iff.1 hg).1 (h3 g rfl)).trans hg, rest⟩
/-- what a digest's blocks are -/
def DigS (p H : Nat) (rv : Value) : Nat → Prop := fun k => k = p ∨ k = H ∨ rv.ownBlock = some k
theorem DigN.ge {base : Nat} {w : World} {p H : Nat} {rv : Value} {m : List UInt8} {N : Nat} (h : DigN base w p H rv m N) (k : Nat) (hk : DigS p H rv k) : base ≤ k := by
  rcases hk with rfl | rfl | hk
  · exact h.bp
  · exact h.bH
  · rcases h.hr.2 with ⟨rfl, _⟩ | ⟨g, cap, cur, rfl, hg, _⟩
    · cases hk
    · obtain rfl : g = k := by simpa [Value.ownBlock] using hk
      exact hg
theorem Src.kept {w w' : World} {v : Value} {l : List UInt8} {S : Nat → Prop} (h : Src w v l) (k : Keep S w w') (hs : ∀ j, v.ownBlock = some j → ¬ S j) : Src w' v l := by
  obtain ⟨a, cap, rfl, h1, h2, h4, h3⟩ := h
  refine ⟨a, cap, rfl, h1, h2, h4, fun hl => ?_⟩
  obtain ⟨B, off, rfl, hB, hc⟩ := h3 hl
  refine ⟨B, off, rfl, Nat.lt_of_lt_of_le hB k.size, fun i hi => ?_⟩
  exact (World.cell?_of_block (w := w) (a := ⟨B, off + i, none⟩) (k.block B hB (hs B rfl))).trans (hc i hi)
theorem Tab.kept {w w' : World} {S : Nat → Prop} (h : Tab w) (k : Keep S w w') (hsz : 18 < w.heap.size) (hs : ¬ S 18) : Tab w' :=
  fun t ht => (World.cell?_of_block (w := w) (a := ⟨18, t, none⟩) (k.block _ hsz hs)).trans (h t ht)
theorem ownsRow_mono {w : World} {base base' : Nat} {e : TypeId} {size : Nat} {v : Value} {n : Nat} {xs : List Value} (h : w.ownsRow base e size v n xs) (hb : base' ≤ base) : w.ownsRow base' e size v n xs := by
  refine ⟨h.1, ?_⟩
  rcases h.2 with hn | ⟨g, cap, cur, rfl, hg, rest⟩
  · exact .inl hn
  · exact .inr ⟨g, cap, cur, rfl, Nat.le_trans hb hg, rest⟩
theorem ownsRow_fresh {w : World} {base : Nat} {e : TypeId} {size : Nat} {v : Value} {n : Nat} {xs : List Value} (h : w.ownsRow base e size v n xs) (k : Nat) (hk : v.ownBlock = some k) : base ≤ k := by
  rcases h.2 with ⟨rfl, _⟩ | ⟨g, cap, cur, rfl, hg, rest⟩
  · cases hk
  · obtain rfl : g = k := by simpa [Value.ownBlock] using hk
    exact hg
theorem grownBy_undrew {w w' : World} {r : Option Nat} (h : w.drew.grownBy w' r) : w.grownBy w' r := ⟨h.os, h.tape, h.output, h.size, h.block⟩
theorem grownBy_any {w w' : World} {r : Option Nat} (h : w.grownBy w' none) : w.grownBy w' r := ⟨h.os, h.tape, h.output, h.size, fun k hk _ => h.block k hk (by simp)⟩
/-- 'append(v, x...)', v the call's own, x whatever: nil, empty, or cells that lie there; where the row is then -/
theorem run_append_src {P : Program} {w : World} (t ty : TypeId) (base : Nat) (e : TypeId) (i : TypeInfo) (z : Value) (size bytes : Nat) (ht : P.underlying t = some (.slice e)) (hi : P.info? e = some i) (hz : i.zero = some z)
    (hsize : i.size = size) (hby : i.bytes = bytes) (hzs : z.cells.size = size) (hsz : 0 < size)
    (v : Value) (n : Nat) (xs : List Value) (hown : w.ownsRow base e size v n xs)
    (xa : Option Addr) (m c : Nat) (news : List Value) (hnil : xa = none → c = 0 ∧ m = 0) (hl : news.length = m * size)
    (hnews : ∀ ad, xa = some ad → ∀ j u, news[j]? = some u → w.cell? (ad.add j) = some u) (h1 : ∀ u ∈ news, u.oneCell' = true)
    (h63 : n + m ≤ maxLen) (hbytes : (n + m) * bytes ≤ 140737488355328) (hbase : base ≤ w.heap.size) :
    ∃ v' w', (Builtin.append_ #[t, t] ty #[v, .slice xa m c]).run P w = .ok v' w' ∧ w'.ownsRow base e size v' (n + m) (xs ++ news) ∧ w.grownBy w' v.ownBlock ∧ (v'.ownBlock = v.ownBlock ∨ ∀ k, v'.ownBlock = some k → w.heap.size ≤ k) := by
  cases xa with
  | none =>
    obtain ⟨rfl, rfl⟩ := hnil rfl
    have hn : news = [] := List.length_eq_zero_iff.1 (by simpa using hl)
    subst hn
    exact ⟨v, w, run_append_owned_none (P := P) (w := w) base t ty e i size ht hi v n xs hown, by simpa using hown, World.grownBy.refl w _, .inl rfl⟩
  | some ad =>
    have hnews := hnews ad rfl
    rcases id hown.2 with ⟨rfl, rfl⟩ | ⟨g, cap, cur, rfl, hbg, hg, hnc, hcm, hcs, htake⟩
    · have hx : xs = [] := List.eq_nil_of_length_eq_zero (by simpa using hown.1)
      subst hx
      obtain ⟨v', w', a1, a2, a3, _⟩ := run_append_own (P := P) w w.heap.size t ty e i z size bytes ht hi hz hsize hby hzs hsz _ 0 [] (World.ownsRow_nil w _ e size) ad m c news hl hnews h1 h63 hbytes (Nat.le_refl _)
      exact ⟨v', w', a1, ownsRow_mono a2 hbase, a3, .inr (ownsRow_fresh a2)⟩
    · by_cases hroom : n + m ≤ cap
      · obtain ⟨w', a1, a2, a3⟩ := run_append_fits (P := P) w base t ty e i size ht hi hsize g n cap xs hown ad m c news hl hnews h1 hroom
        exact ⟨_, w', a1, a2, a3, .inl rfl⟩
      · obtain ⟨v', w', a1, a2, a3⟩ := run_append_arg_grows (P := P) w t ty e i z size bytes ht hi hz hsize hby hzs hsz ⟨g, 0, none⟩ n cap xs hown.1 (hown.cells (g := g) rfl) ad m c news hl hnews (by omega) h63 hbytes
        exact ⟨v', w', a1, ownsRow_mono a2 hbase, grownBy_any a3, .inr (ownsRow_fresh a2)⟩
theorem wp_append_src {P : Program} {o : Oper} {a : Act} {w : World} {K : Act → World → Prop} {Q : Exit → Act → World → Prop} (s x : Operand) (t : TypeId)
    (ho : o.op = .call { callee := .builtin .append, args := #[s, x], argTypes := #[t, t] })
    (base : Nat) (e : TypeId) (i : TypeInfo) (z : Value) (size bytes : Nat) (ht : P.underlying t = some (.slice e)) (hi : P.info? e = some i) (hz : i.zero = some z)
    (hsize : i.size = size) (hby : i.bytes = bytes) (hzs : z.cells.size = size) (hsz : 0 < size)
    (v : Value) (n : Nat) (xs : List Value) (hs : a.eval s = v) (hown : w.ownsRow base e size v n xs)
    (xa : Option Addr) (m c : Nat) (news : List Value) (hx : a.eval x = .slice xa m c) (hnil : xa = none → c = 0 ∧ m = 0) (hl : news.length = m * size)
    (hnews : ∀ ad, xa = some ad → ∀ j u, news[j]? = some u → w.cell? (ad.add j) = some u) (h1 : ∀ u ∈ news, u.oneCell' = true)
    (h63 : n + m ≤ maxLen) (hbytes : (n + m) * bytes ≤ 140737488355328) (hbase : base ≤ w.heap.size)
    (h : ∀ v' w', w'.ownsRow base e size v' (n + m) (xs ++ news) → w.grownBy w' v.ownBlock → (v'.ownBlock = v.ownBlock ∨ ∀ k, v'.ownBlock = some k → w.heap.size ≤ k) → K (a.put o.dst v') w') : Oper.wp P o a w K Q := by
  obtain ⟨v', w', hrun, a2, a3, a4⟩ := run_append_src (P := P) (w := w) t o.type base e i z size bytes ht hi hz hsize hby hzs hsz v n xs hown xa m c news hnil hl hnews h1 h63 hbytes hbase
  unfold Oper.wp
  simp [execOp, ho, resolve, invoke, builtin, hs, hx, hrun, Result.andThen]
  exact h v' w' a2 a3 a4
theorem step_append_src {P : Program} {ops : Array Oper} {o : Oper} {a : Act} {w : World} {K : Act → World → Prop} {Q : Exit → Act → World → Prop} {E : Prop} (hgd : o.guard = none) (s x : Operand) (t : TypeId)
    (ho : o.op = .call { callee := .builtin .append, args := #[s, x], argTypes := #[t, t] })
    (base : Nat) (e : TypeId) (i : TypeInfo) (z : Value) (size bytes : Nat) (ht : P.underlying t = some (.slice e)) (hi : P.info? e = some i) (hz : i.zero = some z)
    (hsize : i.size = size) (hby : i.bytes = bytes) (hzs : z.cells.size = size) (hsz : 0 < size)
    (v : Value) (n : Nat) (xs : List Value) (hs : a.eval s = v) (hown : w.ownsRow base e size v n xs)
    (xa : Option Addr) (m c : Nat) (news : List Value) (hx : a.eval x = .slice xa m c) (hnil : xa = none → c = 0 ∧ m = 0) (hl : news.length = m * size)
    (hnews : ∀ ad, xa = some ad → ∀ j u, news[j]? = some u → w.cell? (ad.add j) = some u) (h1 : ∀ u ∈ news, u.oneCell' = true)
    (h63 : n + m ≤ maxLen) (hbytes : (n + m) * bytes ≤ 140737488355328) (hbase : base ≤ w.heap.size)
    (h : ∀ v' w', w'.ownsRow base e size v' (n + m) (xs ++ news) → w.grownBy w' v.ownBlock → (v'.ownBlock = v.ownBlock ∨ ∀ k, v'.ownBlock = some k → w.heap.size ≤ k) → K (a.put o.dst v') w') :
    if Region.wanted o (yielded ops a.tmps) = true then Oper.wp P o a w K Q else E := by
  rw [if_pos (by simp [Region.wanted, hgd])]
  exact wp_append_src s x t ho base e i z size bytes ht hi hz hsize hby hzs hsz v n xs hs hown xa m c news hx hnil hl hnews h1 h63 hbytes hbase h
theorem wpList_append_src {P : Program} {ops : Array Oper} {rest : List Oper} {o : Oper} {a : Act} {w : World} {Q : Exit → Act → World → Prop} (hgd : o.guard = none) (s x : Operand) (t : TypeId)
    (ho : o.op = .call { callee := .builtin .append, args := #[s, x], argTypes := #[t, t] })
    (base : Nat) (e : TypeId) (i : TypeInfo) (z : Value) (size bytes : Nat) (ht : P.underlying t = some (.slice e)) (hi : P.info? e = some i) (hz : i.zero = some z)
    (hsize : i.size = size) (hby : i.bytes = bytes) (hzs : z.cells.size = size) (hsz : 0 < size)
    (v : Value) (n : Nat) (xs : List Value) (hs : a.eval s = v) (hown : w.ownsRow base e size v n xs)
    (xa : Option Addr) (m c : Nat) (news : List Value) (hx : a.eval x = .slice xa m c) (hnil : xa = none → c = 0 ∧ m = 0) (hl : news.length = m * size)
    (hnews : ∀ ad, xa = some ad → ∀ j u, news[j]? = some u → w.cell? (ad.add j) = some u) (h1 : ∀ u ∈ news, u.oneCell' = true)
    (h63 : n + m ≤ maxLen) (hbytes : (n + m) * bytes ≤ 140737488355328) (hbase : base ≤ w.heap.size)
    (h : ∀ v' w', w'.ownsRow base e size v' (n + m) (xs ++ news) → w.grownBy w' v.ownBlock → (v'.ownBlock = v.ownBlock ∨ ∀ k, v'.ownBlock = some k → w.heap.size ≤ k) → wpList P ops Q rest (a.put o.dst v') w') : wpList P ops Q (o :: rest) a w :=
  wpList_plain hgd fun _ hK => wp_append_src s x t ho base e i z size bytes ht hi hz hsize hby hzs hsz v n xs hs hown xa m c news hx hnil hl hnews h1 h63 hbytes hbase fun v' w' a1 a2 a3 => hK _ _ (h v' w' a1 a2 a3)
theorem Src.nil {w : World} {a : Option Addr} {n cap : Nat} {l : List UInt8} (h : Src w (.slice a n cap) l) : a = none → cap = 0 ∧ l = [] := by
  obtain ⟨a', cap', he, h1, h2, h4, h3⟩ := h
  cases he
  intro ha
  have := h4 ha
  exact ⟨this, List.length_eq_zero_iff.1 (by omega)⟩
/-- the cells of a piece of what reads as bytes -/
theorem Src.cells {w : World} {ad : Addr} {n cap : Nat} {l : List UInt8} (h : Src w (.slice (some ad) n cap) l) (k : Nat) : ∀ j u, (bcells (l.take k))[j]? = some u → w.cell? (ad.add j) = some u := by
  intro j u hj
  obtain ⟨a', cap', he, h1, h2, h4, h3⟩ := h
  cases he
  have hjl : j < (l.take k).length := by
    have := (List.getElem?_eq_some_iff.1 hj).1
    simpa [bcells] using this
  have hjl2 : j < l.length := by simp at hjl; omega
  obtain ⟨B, off, he2, hB, hc⟩ := h3 (by intro e; subst e; simp at hjl2)
  cases he2
  rw [bcells_get _ _ hjl] at hj
  have := hc j hjl2
  rw [← hj]
  by_cases h0 : j = 0
  · subst h0; simpa [Addr.add] using this
  · simpa [Addr.add, h0] using this
theorem Src.cells' {w : World} {a : Option Addr} {n cap : Nat} {l : List UInt8} (h : Src w (.slice a n cap) l) : ∀ ad, a = some ad → ∀ j u, (bcells l)[j]? = some u → w.cell? (ad.add j) = some u := by
  rintro ad rfl j u hj
  have := h.cells l.length j u
  rw [List.take_length] at this
  exact this hj
theorem Src.take {w : World} {a : Option Addr} {n cap : Nat} {l : List UInt8} (h : Src w (.slice a n cap) l) (k : Nat) (hk : k ≤ n) : Src w (.slice a k cap) (l.take k) := by
  obtain ⟨a', cap', he, h1, h2, h4, h3⟩ := h
  cases he
  have hl : (l.take k).length = k := by simp; omega
  refine ⟨a, cap, by rw [hl], by omega, h2, h4, fun hn => ?_⟩
  obtain ⟨B, off, rfl, hB, hc⟩ := h3 (by rintro rfl; simp at hn)
  refine ⟨B, off, rfl, hB, fun i hi => ?_⟩
  rw [hc i (by omega)]; simp
/-- 'b[k:]', as the walk spells it -/
theorem Src.drop {w : World} {a : Option Addr} {n cap : Nat} {l : List UInt8} (h : Src w (.slice a n cap) l) (k : Nat) (hk : k ≤ n) (hk0 : k ≠ 0) :
    Src w (.slice (if cap = k then a else a.map fun x => x.add k) (n - k) (cap - k)) (l.drop k) := by
  obtain ⟨a', cap', he, h1, h2, h4, h3⟩ := h
  cases he
  have hl : (l.drop k).length = l.length - k := by simp
  refine ⟨_, cap - k, by rw [hl], by omega, by omega, fun hn => ?_, fun hn => ?_⟩
  · split at hn
    · have := h4 hn; omega
    · cases a with
      | none => have := h4 rfl; omega
      | some _ => cases hn
  · have hlt : k < l.length := by
      rcases Nat.lt_or_ge k l.length with h | h
      · exact h
      · exact absurd (List.drop_eq_nil_of_le h) hn
    obtain ⟨B, off, rfl, hB, hc⟩ := h3 (by rintro rfl; simp at hlt)
    refine ⟨B, off + k, by rw [if_neg (by omega)]; simp [Addr.add, hk0], hB, fun i hi => ?_⟩
    have := hc (k + i) (by simp at hi; omega)
    rw [Nat.add_assoc]
    simpa using this
theorem Src.block_drop {a : Option Addr} {n cap k n' cap' : Nat} (j : Nat) (h : (Value.slice (if cap = k then a else a.map fun x => x.add k) n' cap').ownBlock = some j) :
    (Value.slice a n cap).ownBlock = some j := by
  cases a with
  | none => split at h <;> simp [Value.ownBlock] at h
  | some x => split at h <;> (simp only [Value.ownBlock, Option.map, Addr.add] at h ⊢; (try split at h) <;> exact h)
theorem own_shape {w : World} {base : Nat} {e : TypeId} {size : Nat} {v : Value} {n : Nat} {xs : List Value} (h : w.ownsRow base e size v n xs) : ∃ a c, v = .slice a n c ∧ n ≤ c ∧ c ≤ maxLen ∧ (a = none → c = 0 ∧ n = 0) := by
  rcases h.2 with ⟨rfl, rfl⟩ | ⟨g, cap, cur, rfl, hb, hh, h1, h2, _⟩
  · exact ⟨none, 0, rfl, by omega, by simp [maxLen], fun _ => ⟨rfl, rfl⟩⟩
  · exact ⟨_, _, rfl, h1, h2, fun e => by cases e⟩
theorem info8 : (Tryz.prog.info? 5).map (fun i => (i.zero, i.size, i.bytes)) = some (some (.int .u8 0), 1, 1) := by kernel_rfl
theorem underB : Tryz.prog.underlying 116 = some (.slice 5) := by kernel_rfl
theorem DigN.shape {base : Nat} {w : World} {p H : Nat} {rv : Value} {m : List UInt8} {N : Nat} (h : DigN base w p H rv m N) :
    ∃ ra rc, rv = .slice ra (m.length % 64) rc ∧ m.length % 64 ≤ rc ∧ rc ≤ maxLen := by
  rcases h.hr.2 with ⟨rfl, h0⟩ | ⟨g, cap, cur, rfl, hg, hh, h1, h2, _⟩
  · exact ⟨none, 0, by rw [h0], by omega, by simp [maxLen]⟩
  · exact ⟨_, _, rfl, h1, h2⟩
theorem cell_at {w : World} {g : Nat} {cs : Array Value} {T : TypeId} {fr : Nat × Nat} (h : w.heap[g]? = some (.cells cs T fr)) (j : Nat) (v : Value) (hv : cs[j]? = some v) : w.cell? ⟨g, j, none⟩ = some v := by
  rw [cell_of_row w g j cs T fr h, hv]
theorem updH_keep (w : World) (H : Nat) (h : List Int) (i : Nat) : Keep (fun k => k = H) w (updH w H h i) := by
  induction i with
  | zero => exact Keep.refl _ _
  | succ i ih => exact ih.trans (Keep.setCell _ _ _) (fun _ _ h => h)
theorem BlkPost.keep {w : World} {H : Nat} {s : R8} {b : List Int} {w' : World} (h : BlkPost w H s b w') : Keep (fun k => k = H) w w' := by
  obtain ⟨k, rfl⟩ := h
  exact (updH_keep w H _ 8).trans ((Keep.alloc (fun _ => False) _ _).trans (Keep.drewN (fun _ => False) _ k) (fun _ _ h => h)) (fun _ _ h => h.elim)
theorem BlkPost.heap {w : World} {H : Nat} {s : R8} {b : List Int} {w' : World} {T : TypeId} (h : BlkPost w H s b w') (hH : w.heap[H]? = some (.cells (vals s.list) T (0, 0))) :
    w'.heap[H]? = some (.cells (vals (blk s b).list) T (0, 0)) := by
  obtain ⟨k, rfl⟩ := h
  have hs : H < w.heap.size := (Array.getElem?_eq_some_iff.1 hH).1
  rw [World.heap_drewN, Below.heap_alloc _ _ _ (by rw [updH_size]; exact hs), updH_same w H (blk s b).list T s.list hH rfl 8 (Nat.le_refl _)]
  rfl
theorem DigN.grown_p {base : Nat} {w w1 : World} {p H : Nat} {rv : Value} {m : List UInt8} {N : Nat} (h : DigN base w p H rv m N) (hg : w.grownBy w1 rv.ownBlock) :
    w1.heap[p]? = some (.cells #[.pointer (some ⟨H, 0, none⟩), rv, .int .u64 (N : Int)] 236 (0, 0)) :=
  (hg.block p (Array.getElem?_eq_some_iff.1 h.hp).1 (fun e => (h.r_ne p e.symm).1 rfl)).trans h.hp
theorem DigN.grown_H {base : Nat} {w w1 : World} {p H : Nat} {rv : Value} {m : List UInt8} {N : Nat} (h : DigN base w p H rv m N) (hg : w.grownBy w1 rv.ownBlock) :
    w1.heap[H]? = some (.cells (vals (fold R0 m (m.length / 64)).list) 230 (0, 0)) :=
  (hg.block H (Array.getElem?_eq_some_iff.1 h.hH).1 (fun e => (h.r_ne H e.symm).2 rfl)).trans h.hH
theorem ownsRow_setCell_ne {w : World} {base : Nat} {e : TypeId} {size : Nat} {v : Value} {n : Nat} {xs : List Value} (h : w.ownsRow base e size v n xs) (a : Addr) (u : Value) (hn : ∀ k, v.ownBlock = some k → k ≠ a.block) :
    (w.setCell a u).ownsRow base e size v n xs := by
  refine ⟨h.1, ?_⟩
  rcases h.2 with h2 | ⟨g, cap, cur, rfl, hg, hh, r⟩
  · exact .inl h2
  · exact .inr ⟨g, cap, cur, rfl, hg, by rw [heap_setCell_other _ _ _ _ (hn g rfl)]; exact hh, r⟩
/-- behind 'd.rest = append(d.rest, ..)' -/
theorem DigN.appended {base : Nat} {w w1 : World} {p H : Nat} {rv v' : Value} {m : List UInt8} {N n' : Nat} {xs' : List Value} (h : DigN base w p H rv m N) (hg : w.grownBy w1 rv.ownBlock)
    (ho : w1.ownsRow base 5 1 v' n' xs') (hf : v'.ownBlock = rv.ownBlock ∨ ∀ k, v'.ownBlock = some k → w.heap.size ≤ k) :
    (w1.setCell ⟨p, 1, none⟩ v').heap[p]? = some (.cells #[.pointer (some ⟨H, 0, none⟩), v', .int .u64 (N : Int)] 236 (0, 0)) ∧
    (w1.setCell ⟨p, 1, none⟩ v').heap[H]? = some (.cells (vals (fold R0 m (m.length / 64)).list) 230 (0, 0)) ∧
    (w1.setCell ⟨p, 1, none⟩ v').ownsRow base 5 1 v' n' xs' ∧ Keep (DigS p H rv) w (w1.setCell ⟨p, 1, none⟩ v') := by
  refine ⟨?_, ?_, ?_, ?_⟩
  · rw [heap_setCell_same _ _ _ _ _ _ (h.grown_p hg)]; simp
  · rw [heap_setCell_other _ _ _ _ (Ne.symm h.p_ne_H)]; exact h.grown_H hg
  · refine ownsRow_setCell_ne ho _ _ fun k hk => ?_
    rcases hf with hf | hf
    · exact (h.r_ne k (hf ▸ hk)).1
    · have := hf k hk
      have := (Array.getElem?_eq_some_iff.1 h.hp).1
      simp only [ne_eq]; omega
  · exact ((Keep.of_grown hg).mono fun k _ hk => .inr (.inr hk)).trans (Keep.setCell _ _ _) fun k _ hk => .inl hk
/-- some bytes more, no block whole -/
theorem dig_small {base : Nat} {w : World} {p H : Nat} {rv : Value} {m l : List UInt8} {N n' : Nat} (hN : N = (m ++ l).length) (hn : n' = m.length % 64 + l.length) (hs : m.length % 64 + l.length < 64) (bp : base ≤ p) (bH : base ≤ H)
    (h1 : w.heap[p]? = some (.cells #[.pointer (some ⟨H, 0, none⟩), rv, .int .u64 (N : Int)] 236 (0, 0)))
    (h2 : w.heap[H]? = some (.cells (vals (fold R0 m (m.length / 64)).list) 230 (0, 0)))
    (h3 : w.ownsRow base 5 1 rv n' (bcells (m.drop (64 * (m.length / 64))) ++ bcells l)) : Dig base w p H rv (m ++ l) := by
  subst hN hn
  have hd : (m ++ l).length / 64 = m.length / 64 := by rw [List.length_append]; omega
  have hm : (m ++ l).length % 64 = m.length % 64 + l.length := by rw [List.length_append]; omega
  refine ⟨h1, ?_, ?_, bp, bH⟩
  · rw [hd, fold_append _ _ _ _ (by omega)]; exact h2
  · rw [hd, hm, List.drop_append_of_le_length (by omega), bcells_append]; exact h3
/-- a row of 64 bytes as the block's argument -/
theorem own64 {w : World} {base : Nat} {e : TypeId} {va : Option Addr} {vc : Nat} {rb : List UInt8} (h : w.ownsRow base e 1 (.slice va 64 vc) 64 (bcells rb)) :
    ∃ g, va = some ⟨g, 0, none⟩ ∧ 64 ≤ vc ∧ vc ≤ maxLen ∧ g < w.heap.size ∧ rb.length = 64 ∧ ∀ i, i < 64 → w.cell? ⟨g, 0 + i, none⟩ = some (.int .u8 ((ints rb).getD i 0)) := by
  have hl : rb.length = 64 := by have := h.1; rwa [bcells_length] at this
  rcases id h.2 with ⟨h0, _⟩ | ⟨g, cap, cur, h0, hb, hg, h1, h2, h3, h4⟩
  · cases h0
  · cases h0
    refine ⟨g, rfl, h1, h2, (Array.getElem?_eq_some_iff.1 hg).1, hl, fun i hi => ?_⟩
    have := h.cellAt i (by omega)
    rw [Nat.zero_add, this, bcells_get _ _ (by omega), ints_getD _ _ (by omega)]
    rfl
theorem own_zero {w : World} {base : Nat} {e : TypeId} {size g n cap : Nat} {xs : List Value} (h : w.ownsRow base e size (.slice (some ⟨g, 0, none⟩) n cap) n xs) :
    w.ownsRow base e size (.slice (some ⟨g, 0, none⟩) 0 cap) 0 [] := by
  rcases h.2 with ⟨h0, _⟩ | ⟨g', cap', cur, h0, hb, hg, h1, h2, h3, h4⟩
  · cases h0
  · cases h0
    exact ⟨by simp, .inr ⟨g, cap, cur, rfl, hb, hg, by omega, h2, h3, by simp⟩⟩
theorem own_keep {w w' : World} {base : Nat} {e : TypeId} {size : Nat} {v : Value} {n : Nat} {xs : List Value} {S : Nat → Prop} (h : w.ownsRow base e size v n xs) (k : Keep S w w') (hs : ∀ j, v.ownBlock = some j → ¬ S j) :
    w'.ownsRow base e size v n xs := by
  refine ⟨h.1, ?_⟩
  rcases h.2 with hn | ⟨g, cap, cur, rfl, hb, hg, rest⟩
  · exact .inl hn
  · exact .inr ⟨g, cap, cur, rfl, hb, (k.block _ (Array.getElem?_eq_some_iff.1 hg).1 (hs g rfl)).trans hg, rest⟩
theorem own_block {w : World} {base : Nat} {e : TypeId} {size g n cap : Nat} {xs : List Value} (h : w.ownsRow base e size (.slice (some ⟨g, 0, none⟩) n cap) n xs) :
    ∃ cur, w.heap[g]? = some (.cells cur e (0, 0)) := by
  rcases h.2 with ⟨h0, _⟩ | ⟨g', cap', cur, h0, hb, hg, h1⟩
  · cases h0
  · cases h0; exact ⟨cur, hg⟩
theorem fold_whole (m x : List UInt8) (h : m.length % 64 + x.length = 64) :
    fold R0 (m ++ x) ((m ++ x).length / 64) = blk (fold R0 m (m.length / 64)) (ints (m.drop (64 * (m.length / 64)) ++ x)) := by
  have hd : (m ++ x).length / 64 = m.length / 64 + 1 := by rw [List.length_append]; omega
  rw [hd, fold, fold_append _ _ _ _ (by omega), List.drop_append_of_le_length (by omega), List.take_of_length_le (by simp; omega)]
theorem own_src {w : World} {base : Nat} {e : TypeId} {size : Nat} {a : Option Addr} {n c : Nat} {xs : List Value} (h : w.ownsRow base e size (.slice a n c) n xs) :
    (a = none → c = 0 ∧ n = 0) ∧ ∀ ad, a = some ad → ∀ j u, xs[j]? = some u → w.cell? (ad.add j) = some u := by
  rcases id h.2 with ⟨h0, h1⟩ | ⟨g, cap, cur, h0, hb, hg, h1, h2, h3, h4⟩
  · injection h0 with q1 q2 q3
    subst q1
    subst q3
    exact ⟨fun _ => ⟨rfl, h1⟩, fun ad h => by cases h⟩
  · injection h0 with q1 q2 q3
    subst q1
    subst q3
    refine ⟨(fun h => by cases h), ?_⟩
    rintro ad had j u hj
    cases had
    exact h.cells (g := g) rfl j u hj
/-- the length that a slice value bears -/
def lenOf : Value → Nat | .slice _ n _ => n | _ => 0
end Go.Proofs.YtgbafjmklefoiaaGreatDoor
end
section
namespace Go.Proofs.YtgbafjmklefoiaaGreatDoor
set_option maxRecDepth 100000
open Go.RowKit
/-- what holds behind the first step of Write, and at each round: m1 is taken, l1 is still to come -/
structure Mid (base : Nat) (w : World) (p H : Nat) (rv bv : Value) (all : List UInt8) (v : Value) (wr : World) (m1 l1 : List UInt8) (rv1 : Value) : Prop where
  eq : all = m1 ++ l1
  len : m1.length % 64 = 0
  dig : DigN base wr p H rv1 m1 all.length
  src : Src wr v l1
  keep : Keep (DigS p H rv) w wr
  own : rv1.ownBlock = rv.ownBlock ∨ ∀ k, rv1.ownBlock = some k → w.heap.size ≤ k
  blk : ∀ k, v.ownBlock = some k → bv.ownBlock = some k
def MidE (base : Nat) (w : World) (p H : Nat) (rv bv : Value) (all : List UInt8) (v : Value) (wr : World) : Prop :=
  ∃ m1 l1 rv1, Mid base w p H rv bv all v wr m1 l1 rv1
def WPost (base : Nat) (w : World) (p H : Nat) (rv : Value) (all : List UInt8) (w' : World) : Prop :=
  ∃ rv', Dig base w' p H rv' all ∧ Keep (DigS p H rv) w w' ∧ (rv'.ownBlock = rv.ownBlock ∨ ∀ k, rv'.ownBlock = some k → w.heap.size ≤ k)
set_option maxHeartbeats 1600000 in
set_option maxRecDepth 100000 in
theorem write_any (base : Nat) (w : World) (p H : Nat) (rv bv : Value) (m l : List UInt8) (hD : Dig base w p H rv m) (hT : Tab w) (hg : 18 < base)
    (hS : Src w bv l) (hne : ∀ k, bv.ownBlock = some k → k ≠ p ∧ k ≠ H ∧ rv.ownBlock ≠ some k) (hlen : m.length + l.length < 1152921504606846976) (hbase : base ≤ w.heap.size) :
    Calls Tryz.prog 137 #[.pointer (some ⟨p, 0, none⟩), bv] w fun e w' => e = .returned (.tuple #[]) ∧ WPost base w p H rv (m ++ l) w' := by
  obtain ⟨ra, rc, hrv, hrc, hrc2⟩ := hD.shape
  obtain ⟨ba, bc, hbv, hbc, hbc2, hbn, hcells⟩ := id hS
  have c0 := cell_at hD.hp 0 _ rfl
  have c1 := cell_at hD.hp 1 _ rfl
  have c2 := cell_at hD.hp 2 _ rfl
  have f0 := frozen_of_row w p 0 _ _ hD.hp
  have f1 := frozen_of_row w p 1 _ _ hD.hp
  have f2 := frozen_of_row w p 2 _ _ hD.hp
  have HRV := Bx.mk hrv; have HBV := Bx.mk hbv
  have HD := Bx.mk hD; have HS := Bx.mk hS; have HT := Bx.mk hT; have HNE := Bx.mk hne; have HC := Bx.mk hcells
  clear hD hS hT hne hcells
  unfold maxLen at hrc2 hbc2
  rw [hrv] at c1
  subst hbv
  clear hrv
  go_enter Tryz.func137, Tryz.ntmps137
  go_upto_if 29 with (fail)
  generalize hW0 : w.setCell ⟨p, 2, none⟩ (.int .u64 ((m.length : Int) + (l.length : Int))) = W0
  have d0 : DigN base W0 p H rv m (m ++ l).length := by
    rw [← hW0]
    refine ⟨?_, ?_, ?_, HD.out.bp, HD.out.bH⟩
    · rw [heap_setCell_same _ _ _ _ _ _ HD.out.hp]; simp
    · rw [heap_setCell_other _ _ _ _ (Ne.symm HD.out.p_ne_H)]; exact HD.out.hH
    · exact HD.out.hr.kept (row := some p) ⟨rfl, rfl, rfl, by simp [World.setCell], fun k _ hn => heap_setCell_other _ _ _ _ (by intro e; exact hn (by simp [e]))⟩ (by
        cases hb : rv.ownBlock with
        | none => exact .inl rfl
        | some j => exact .inr (by intro e; exact (HD.out.r_ne j hb).1 (Option.some.inj e)))
  have k0 : Keep (DigS p H rv) w W0 := by rw [← hW0]; exact (Keep.setCell _ _ _).mono fun k _ hk => .inl hk
  have s0 : Src W0 (.slice ba l.length bc) l := HS.out.kept k0 (fun j hj => by
    obtain ⟨a1, a2, a3⟩ := HNE.out j hj
    rintro (h | h | h)
    · exact a1 h
    · exact a2 h
    · exact a3 h)
  have D0 := Bx.mk d0; have S0 := Bx.mk s0; have K0 := Bx.mk k0
  clear d0 s0 k0 hW0 c0 c1 c2 f0 f1 f2
  have c0 := cell_at D0.out.hp 0 _ rfl
  have c1 := cell_at D0.out.hp 1 _ rfl
  have f1 := frozen_of_row W0 p 1 _ _ D0.out.hp
  rw [HRV.out] at c1
  go_cut [1] (fun v wc => MidE base w p H rv (.slice ba l.length bc) (m ++ l) v wc)
  case first =>
    by_cases h0 : m.length % 64 = 0
    · have h1 : (m.length : Int) % 64 ≤ 0 := by omega
      have H0 := Bx.mk h0; clear h0
      go_wp2_with fail
      go_meet
      case rel => exact ⟨m, l, rv, rfl, H0.out, D0.out, S0.out, K0.out, .inl rfl, fun _ h => h⟩
    · have h1 : 0 < (m.length : Int) % 64 := by omega
      have h2 : (m.length : Int) % 64 < 64 := by omega
      have H0 := Bx.mk h0; clear h0
      by_cases hb : m.length % 64 + l.length < 64
      · have hb1 : (m.length : Int) % 64 + l.length < 64 := by omega
        have HB := Bx.mk hb; clear hb
        have hroom : m.length % 64 + l.length ≤ maxLen := by unfold maxLen; omega
        have hby : (m.length % 64 + l.length) * 1 ≤ 140737488355328 := by omega
        have hbw : base ≤ W0.heap.size := Nat.le_trans hbase K0.out.size
        obtain ⟨i0, hi, hz0, hz1, hz2⟩ := info_parts info8
        have hown := D0.out.hr
        have hnil : ba = none → bc = 0 ∧ l.length = 0 := fun h => ⟨(S0.out.nil h).1, by have := (S0.out.nil h).2; simp [this]⟩
        have hnews : ∀ ad, ba = some ad → ∀ j u, (bcells l)[j]? = some u → W0.cell? (ad.add j) = some u := S0.out.cells'
        have hpf := fun (w1 : World) (hgw : W0.grownBy w1 rv.ownBlock) => cell_at (D0.out.grown_p hgw) 1 _ rfl
        have hpz := fun (w1 : World) (hgw : W0.grownBy w1 rv.ownBlock) => frozen_of_row w1 p 1 _ _ (D0.out.grown_p hgw)
        rw [HRV.out] at hown hpf hpz
        have R1 := Bx.mk hroom; have R2 := Bx.mk hby; have R3 := Bx.mk hbw; have RI := Bx.mk (And.intro hi (And.intro hz0 (And.intro hz1 hz2))); have RO := Bx.mk hown
        have RN := Bx.mk hnil; have RS := Bx.mk hnews; have RP := Bx.mk hpf; have RZ := Bx.mk hpz
        clear hroom hby hbw hi hz0 hz1 hz2 hown hnil hnews hpf hpz
        go_upto_region 4 with (fail)
        go_region_law (refine step_append_src rfl (.tmp 43) (.tmp 46) 116 rfl base 5 i0 (.int .u8 0) 1 1 underB RI.out.1 RI.out.2.1 RI.out.2.2.1 RI.out.2.2.2 rfl (by decide) (.slice ra (m.length % 64) rc) _ _ rfl RO.out ba l.length bc (bcells l) rfl RN.out (by simp [bcells]) RS.out (bcells_one _) R1.out R2.out R3.out ?_; intro v' w1 hown' hgrow hfr; replace hgrow := grownBy_undrew hgrow; have G1 := Bx.mk hgrow; have F1 := Bx.mk hfr; have O1 := Bx.mk hown'; obtain ⟨va, vc, hv', hn1, hn2, hn3⟩ := own_shape hown'; clear hgrow hfr hown'; have q0 := RP.out w1 G1.out; have q1 := RZ.out w1 G1.out; subst hv')
        go_wp2_with fail
        all_goals
          refine bodyPost_ret (results_none rfl _ _ _) rfl ?_
          obtain ⟨a1, a2, a3, a4⟩ := D0.out.appended (by rw [HRV.out]; exact G1.out) O1.out (by rw [HRV.out]; exact F1.out)
          exact ⟨rfl, _, dig_small rfl rfl HB.out HD.out.bp HD.out.bH a1 a2 a3, K0.out.trans a4 (fun _ _ h => h), by rw [HRV.out]; exact F1.out.imp_right fun h k hk => Nat.le_trans K0.out.size (h k hk)⟩
      · have hb1 : 64 ≤ (m.length : Int) % 64 + l.length := by omega
        have HB := Bx.mk hb; clear hb
        have hroom : m.length % 64 + (64 - m.length % 64) ≤ maxLen := by unfold maxLen; omega
        have hby : (m.length % 64 + (64 - m.length % 64)) * 1 ≤ 140737488355328 := by omega
        have hbw : base ≤ W0.heap.size := Nat.le_trans hbase K0.out.size
        obtain ⟨i0, hi, hz0, hz1, hz2⟩ := info_parts info8
        have hown := D0.out.hr
        have hnil : ba = none → bc = 0 ∧ (64 - m.length % 64) = 0 := fun h => absurd ((S0.out.nil h).2) (by rintro rfl; simp at hb1; omega)
        have hnews : ∀ ad, ba = some ad → ∀ j u, (bcells (l.take (64 - m.length % 64)))[j]? = some u → W0.cell? (ad.add j) = some u := (S0.out.take (64 - m.length % 64) (by omega)).cells'
        have hpf := fun (w1 : World) (hgw : W0.grownBy w1 rv.ownBlock) => cell_at (D0.out.grown_p hgw) 1 _ rfl
        have hpz := fun (w1 : World) (hgw : W0.grownBy w1 rv.ownBlock) => frozen_of_row w1 p 1 _ _ (D0.out.grown_p hgw)
        rw [HRV.out] at hown hpf hpz
        have R1 := Bx.mk hroom; have R2 := Bx.mk hby; have R3 := Bx.mk hbw; have RI := Bx.mk (And.intro hi (And.intro hz0 (And.intro hz1 hz2))); have RO := Bx.mk hown
        have RN := Bx.mk hnil; have RS := Bx.mk hnews; have RP := Bx.mk hpf; have RZ := Bx.mk hpz
        clear hroom hby hbw hi hz0 hz1 hz2 hown hnil hnews hpf hpz
        have e64 : m.length % 64 + (64 - m.length % 64) = 64 := by omega
        have R64 := Bx.mk e64; clear e64
        have hx1 : (m.length : Int) % 64 ≤ 64 := by omega
        have hx2 : 64 - (m.length : Int) % 64 ≤ bc := by omega
        have hx3 : (64 - (m.length : Int) % 64).toNat = 64 - m.length % 64 := by omega
        have X3 := Bx.mk hx3; clear hx3
        go_upto_region 4 with (fail)
        have hx3 := X3.out
        go_region_law (refine step_append_src rfl (.tmp 43) (.tmp 46) 116 rfl base 5 i0 (.int .u8 0) 1 1 underB RI.out.1 RI.out.2.1 RI.out.2.2.1 RI.out.2.2.2 rfl (by decide) (.slice ra (m.length % 64) rc) _ _ rfl RO.out ba (64 - m.length % 64) bc (bcells (l.take (64 - m.length % 64))) rfl RN.out (by simp [bcells]; omega) RS.out (bcells_one _) R1.out R2.out R3.out ?_; intro v' w1 hown' hgrow hfr; replace hgrow := grownBy_undrew hgrow; have G1 := Bx.mk hgrow; have F1 := Bx.mk hfr; rw [R64.out] at hown'; have O1 := Bx.mk hown'; obtain ⟨va, vc, hv', hn1, hn2, hn3⟩ := own_shape hown'; clear hgrow hfr hown'; have q0 := RP.out w1 G1.out; have q1 := RZ.out w1 G1.out; subst hv')
        clear hx3
        obtain ⟨a1, a2, a3, a4⟩ := D0.out.appended (by rw [HRV.out]; exact G1.out) O1.out (by rw [HRV.out]; exact F1.out)
        go_upto_region 5 with (fail)
        generalize hW2 : w1.setCell ⟨p, 1, none⟩ (.slice va 64 vc) = W2 at a1 a2 a3 a4 ⊢
        clear hW2
        rw [← bcells_append] at a3
        obtain ⟨g, rfl, hg1, hg2, hg3, hg4, hg5⟩ := own64 a3
        have b0 := cell_at a1 0 _ rfl
        have b1 := cell_at a1 1 _ rfl
        have kw := K0.out.trans a4 (fun _ _ h => h)
        have hT2 : Tab W2 := HT.out.kept kw (by omega) (fun h => by have := HD.out.ge _ h; omega)
        have hsz2 : 18 < W2.heap.size := by have := kw.size; omega
        have hc := fun n => block_any (W2.drewN n) H g 0 vc _ _ _ hT2 hsz2 hg5 hg3 hg1 a2
        have hsrc : Src W2 (.slice ba l.length bc) l := S0.out.kept a4 (fun j hj => by
          obtain ⟨a1, a2, a3⟩ := HNE.out j hj
          rintro (h | h | h)
          · exact a1 h
          · exact a2 h
          · exact a3 h)
        have hsrc2 := hsrc.drop (64 - m.length % 64) (by omega) (by omega)
        have HC2 := Bx.mk hc; have A1 := Bx.mk a1; have A2 := Bx.mk a2; have A3 := Bx.mk a3; have KW := Bx.mk kw; have SR := Bx.mk hsrc2
        clear hc a1 a2 a3 a4 kw hT2 hsz2 hg5 c0 c1 f1 q0 q1 hsrc hsrc2
        go_cut [1] (fun v wc => W2 = wc ∧ v = .slice (if bc = (64 - m.length % 64) then ba else ba.map fun x => x.add (64 - m.length % 64)) (l.length - (64 - m.length % 64)) (bc - (64 - m.length % 64)))
        case first =>
          go_wp2_with fail
          all_goals go_meet
          all_goals (case rel => exact ⟨rfl, by simp [*]⟩)
        case rest =>
         obtain ⟨rfl, rfl⟩ := hcut
         have hblk := fun j => Src.block_drop (a := ba) (n := l.length) (cap := bc) (k := (64 - m.length % 64)) (n' := l.length - (64 - m.length % 64)) (cap' := bc - (64 - m.length % 64)) j
         generalize hV5 : Value.slice (if bc = (64 - m.length % 64) then ba else ba.map fun x => x.add (64 - m.length % 64)) (l.length - (64 - m.length % 64)) (bc - (64 - m.length % 64)) = v5 at hblk SR ⊢
         clear hV5
         go_upto_region 7 with (fail)
         refine wp_region_quiet_tail (C := fun w' => ∃ n, w' = W2.drewN n) 8 (by kernel_rfl) (by kernel_rfl) ⟨1, rfl⟩ ?_
         simp only [List.take_succ_cons, List.take_zero, List.drop_succ_cons, List.drop_zero]
         repeat go_big_quiet_step (fail)
         refine wpQuiet_nil ?_
         intro _ hw'
         obtain ⟨nr, hw''⟩ := hw'
         subst hw''
         go_wp2_with fail
         refine (HC2.out nr).mono ?_
         rintro e w3 ⟨rfl, hbp⟩
         have n1 : Keep (fun k => k = H) W2 w3 := (Keep.drewN (fun k => k = H) W2 nr).trans hbp.keep (fun _ _ h => h)
         have n2 := hbp.heap (T := 230) A2.out
         have hpH : p ≠ H := HD.out.p_ne_H
         have n3 := (n1.block p (Array.getElem?_eq_some_iff.1 A1.out).1 hpH).trans A1.out
         have N1 := Bx.mk n1; have N2 := Bx.mk n2; have N3 := Bx.mk n3
         have e0 := cell_at n3 1 _ rfl
         have e1 := frozen_of_row w3 p 1 _ _ n3
         clear hbp n1 n2 n3 b0 b1
         go_wp2_with fail
         go_meet
         case rel =>
           have hl : (m ++ l.take (64 - m.length % 64)).length = m.length + (64 - m.length % 64) := by simp; omega
           obtain ⟨cur, hcur⟩ := own_block A3.out
           have hgp : g ≠ p := by rintro rfl; have := hcur.symm.trans A1.out; simp at this
           have hgH : g ≠ H := by rintro rfl; have := hcur.symm.trans A2.out; simp at this
           have ks : Keep (DigS p H rv) W2 (w3.setCell ⟨p, 1, none⟩ (.slice (some ⟨g, 0, none⟩) 0 vc)) :=
             (N1.out.mono fun k _ h => .inr (.inl h)).trans (Keep.setCell _ _ _) fun k _ h => .inl h
           refine ⟨m ++ l.take (64 - m.length % 64), l.drop (64 - m.length % 64), .slice (some ⟨g, 0, none⟩) 0 vc, by rw [List.append_assoc, List.take_append_drop], by rw [hl]; omega, ⟨?_, ?_, ?_, HD.out.bp, HD.out.bH⟩, ?_, KW.out.trans ks (fun _ _ h => h), ?_, hblk⟩
           · rw [heap_setCell_same _ _ _ _ _ _ N3.out]; simp
           · rw [heap_setCell_other _ _ _ _ (Ne.symm hpH), fold_whole _ _ (by simp; omega)]; exact N2.out
           · have h0 : (m ++ l.take (64 - m.length % 64)).length % 64 = 0 := by rw [hl]; omega
             have h1 : 64 * ((m ++ l.take (64 - m.length % 64)).length / 64) = (m ++ l.take (64 - m.length % 64)).length := by omega
             rw [h0, h1, List.drop_length]
             exact ownsRow_setCell_ne (own_zero (own_keep A3.out N1.out (by intro j hj; have : g = j := (by simpa [Value.ownBlock] using hj); omega))) _ _ (by intro j hj; have : g = j := (by simpa [Value.ownBlock] using hj); simp only [ne_eq]; omega)
           · refine SR.out.kept ks (fun j hj => ?_)
             obtain ⟨a1, a2, a3⟩ := HNE.out j (hblk j hj)
             rintro (h | h | h)
             · exact a1 h
             · exact a2 h
             · exact a3 h
           · rw [HRV.out]; exact F1.out.imp (fun h => h) fun h k hk => Nat.le_trans K0.out.size (h k hk)
  case rest =>
    have HCUT := Bx.mk hcut
    clear hcut c0 c1 f1 hrc hrc2
    go_wp2_with fail
    go_loopw [1] (fun v wr => MidE base w p H rv (.slice ba l.length bc) (m ++ l) v wr) (fun v _ => lenOf v)
    case atStart => exact HCUT.out
    case round =>
      obtain ⟨m1, l1, rv1, M⟩ := hrel
      obtain ⟨a1, e1, hsh, he1, he2, he3, he4⟩ := id M.src
      subst hsh
      obtain ⟨ra1, rc1, hrv1, hr1, hr2⟩ := M.dig.shape
      have b0 := cell_at M.dig.hp 0 _ rfl
      have b1 := cell_at M.dig.hp 1 _ rfl
      rw [hrv1] at b1
      have R1 := Bx.mk hrv1; clear hrv1
      have hz := M.len
      have HZ := Bx.mk hz; clear hz
      have hml : m.length + l.length = m1.length + l1.length := by have := congrArg List.length M.eq; simpa using this
      unfold maxLen at he2 hr2
      have MM := Bx.mk M; have E3 := Bx.mk he3; have E4 := Bx.mk he4; have HML := Bx.mk hml
      clear M he3 he4 hml HCUT
      by_cases h64 : 64 ≤ l1.length
      · obtain ⟨B, off, rfl, hB, hcs⟩ := E4.out (by rintro rfl; simp at h64)
        have hT2 : Tab wr := HT.out.kept MM.out.keep (by omega) (fun h => by have := HD.out.ge _ h; omega)
        have hsz2 : 18 < wr.heap.size := by have := MM.out.keep.size; omega
        have hcb : ∀ i, i < 64 → wr.cell? ⟨B, off + i, none⟩ = some (.int .u8 ((ints (l1.take 64)).getD i 0)) := fun i hi => by
          rw [hcs i (by omega), ints_getD _ _ (by simp; omega)]; simp [bcell]
        have hc := fun n => block_any (wr.drewN n) H B off e1 _ _ _ hT2 hsz2 hcb hB (by omega) MM.out.dig.hH
        have HC := Bx.mk hc
        clear hc hT2 hsz2 hcb hcs hB
        go_wp2_with fail
        refine wp_region_quiet_tail (C := fun w' => ∃ n, w' = wr.drewN n) 6 (by kernel_rfl) (by kernel_rfl) ⟨1, rfl⟩ ?_
        simp only [List.take_succ_cons, List.take_zero, List.drop_succ_cons, List.drop_zero]
        repeat go_big_quiet_step (fail)
        refine wpQuiet_nil ?_
        intro _ hw'
        obtain ⟨nr, hw''⟩ := hw'
        subst hw''
        go_wp2_with fail
        refine (HC.out nr).mono ?_
        rintro e w3 ⟨rfl, hbp⟩
        have n1 : Keep (fun k => k = H) wr w3 := (Keep.drewN (fun k => k = H) wr nr).trans hbp.keep (fun _ _ h => h)
        have n2 := hbp.heap (T := 230) MM.out.dig.hH
        have N1 := Bx.mk n1; have N2 := Bx.mk n2
        clear hbp n1 n2 b0 b1
        have hfin : ∀ v5, v5 = Value.slice (if e1 = 64 then some ⟨B, off, none⟩ else (some (⟨B, off, none⟩ : Addr)).map fun x => x.add 64) (l1.length - 64) (e1 - 64) →
            MidE base w p H rv (.slice ba l.length bc) (m ++ l) v5 w3 := by
          intro v5 hv5
          have MO := MM.out
          have h64' : (l1.take 64).length = 64 := by simp; omega
          have hl : (m1 ++ l1.take 64).length = m1.length + 64 := by rw [List.length_append, h64']
          have hz := HZ.out
          have kd := MO.dig
          refine ⟨m1 ++ l1.take 64, l1.drop 64, rv1, by rw [List.append_assoc, List.take_append_drop]; exact MO.eq, by rw [hl]; omega, ⟨?_, ?_, ?_, HD.out.bp, HD.out.bH⟩, ?_, MO.keep.trans N1.out fun k _ h => .inr (.inl h), MO.own, ?_⟩
          · exact (N1.out.block p (Array.getElem?_eq_some_iff.1 kd.hp).1 kd.p_ne_H).trans kd.hp
          · rw [fold_whole _ _ (by rw [h64']; omega)]
            have hd : m1.drop (64 * (m1.length / 64)) = [] := List.drop_eq_nil_of_le (by omega)
            rw [hd, List.nil_append]; exact N2.out
          · have h0 : (m1 ++ l1.take 64).length % 64 = m1.length % 64 := by rw [hl]; omega
            have h1 : 64 * ((m1 ++ l1.take 64).length / 64) = (m1 ++ l1.take 64).length := by omega
            have hd : m1.drop (64 * (m1.length / 64)) = [] := List.drop_eq_nil_of_le (by omega)
            rw [h0, h1, List.drop_length, ← hd]
            exact own_keep kd.hr N1.out fun j hj e => (kd.r_ne j hj).2 e
          · rw [hv5]
            refine (MO.src.drop 64 h64 (by omega)).kept N1.out fun j hj e => ?_
            have := MO.blk j (Src.block_drop j hj)
            exact (HNE.out j this).2.1 e
          · intro k hk
            rw [hv5] at hk
            exact MO.blk k (Src.block_drop k hk)
        have HF := Bx.mk hfin; clear hfin
        by_cases hc : e1 = 64
        · subst hc
          go_wp2_with fail
          go_roundw
          case rel => exact HF.out _ (by simp; omega)
          case measure => simp [lenOf]; omega
        · have hc2 : (e1 == 64) = false := by simpa using hc
          go_wp2_with fail
          go_roundw
          case rel => exact HF.out _ (by simp [hc, Addr.add])
          case measure => simp [lenOf]; omega
      · have hroom : m1.length % 64 + l1.length ≤ maxLen := by unfold maxLen; omega
        have hby : (m1.length % 64 + l1.length) * 1 ≤ 140737488355328 := by omega
        have hbw : base ≤ wr.heap.size := Nat.le_trans hbase MM.out.keep.size
        obtain ⟨i0, hi, hz0, hz1, hz2⟩ := info_parts info8
        have hown := MM.out.dig.hr
        have hnil : a1 = none → e1 = 0 ∧ l1.length = 0 := fun h => ⟨(MM.out.src.nil h).1, by have := (MM.out.src.nil h).2; simp [this]⟩
        have hnews : ∀ ad, a1 = some ad → ∀ j u, (bcells l1)[j]? = some u → wr.cell? (ad.add j) = some u := MM.out.src.cells'
        have hpf := fun (w1 : World) (hgw : wr.grownBy w1 rv1.ownBlock) => cell_at (MM.out.dig.grown_p hgw) 1 _ rfl
        have hpz := fun (w1 : World) (hgw : wr.grownBy w1 rv1.ownBlock) => frozen_of_row w1 p 1 _ _ (MM.out.dig.grown_p hgw)
        rw [R1.out] at hown hpf hpz
        have Q1 := Bx.mk hroom; have Q2 := Bx.mk hby; have Q3 := Bx.mk hbw; have RI := Bx.mk (And.intro hi (And.intro hz0 (And.intro hz1 hz2))); have RO := Bx.mk hown
        have RN := Bx.mk hnil; have RS := Bx.mk hnews; have RP := Bx.mk hpf; have RZ := Bx.mk hpz
        clear hroom hby hbw hi hz0 hz1 hz2 hown hnil hnews hpf hpz
        go_wp2_with (refine wpList_append_src rfl (.tmp 92) (.tmp 93) 116 rfl base 5 i0 (.int .u8 0) 1 1 underB RI.out.1 RI.out.2.1 RI.out.2.2.1 RI.out.2.2.2 rfl (by decide) (.slice ra1 (m1.length % 64) rc1) _ _ rfl RO.out a1 l1.length e1 (bcells l1) rfl RN.out (by simp [bcells]) RS.out (bcells_one _) Q1.out Q2.out Q3.out ?_; intro v' w1 hown' hgrow hfr; have G1 := Bx.mk hgrow; have F1 := Bx.mk hfr; have O1 := Bx.mk hown'; obtain ⟨va, vc, hv', hn1, hn2, hn3⟩ := own_shape hown'; clear hgrow hfr hown'; have q0 := RP.out w1 G1.out; have q1 := RZ.out w1 G1.out; subst hv')
        go_end0
        have MO := MM.out
        obtain ⟨c1, c2, c3, c4⟩ := MO.dig.appended (by rw [R1.out]; exact G1.out) O1.out (by rw [R1.out]; exact F1.out)
        have hz := HZ.out
        rw [MO.eq] at c1 ⊢
        refine ⟨rfl, _, dig_small rfl rfl (by omega) HD.out.bp HD.out.bH c1 c2 c3, MO.keep.trans c4 (fun k hk h => ?_), ?_⟩
        · rcases h with h | h | h
          · exact .inl h
          · exact .inr (.inl h)
          · rcases MO.own with o | o
            · exact .inr (.inr (o ▸ h))
            · exact absurd (o k h) (by omega)
        · have f := F1.out
          rw [← R1.out] at f
          rcases f with f | f
          · rcases MO.own with o | o
            · exact .inl (f.trans o)
            · exact .inr fun k hk => o k (f ▸ hk)
          · exact .inr fun k hk => Nat.le_trans MO.keep.size (f k hk)
end Go.Proofs.YtgbafjmklefoiaaGreatDoor
end
section
namespace Go.Proofs.YtgbafjmklefoiaaGreatDoor
set_option maxRecDepth 100000
open Go.RowKit
/-- a digest of the call's own -/
structure NewDig (w : World) (w' : World) (v : Value) (m : List UInt8) (p H : Nat) (rv : Value) : Prop where
  val : v = .pointer (some ⟨p, 0, none⟩)
  dig : Dig w.heap.size w' p H rv m
  below : Below w.heap.size w w'
set_option maxHeartbeats 400000 in
theorem new_any (w : World) : Calls Tryz.prog 136 #[] w fun e w' => ∃ v p H rv, e = .returned v ∧ NewDig w w' v [] p H rv := by
  go_enter Tryz.func136, Tryz.ntmps136
  go_wp2
  go_ret
  refine ⟨_, w.heap.size + 1, w.heap.size, .slice none 0 0, rfl, rfl, ⟨heap_alloc2_new _ _ _, ?_, World.ownsRow_nil _ _ _ _, by omega, by omega⟩, ((Below.refl _ _).alloc (Nat.le_refl _) _).alloc (by simp) _⟩
  exact heap_alloc2_old _ _ _
set_option maxHeartbeats 800000 in
set_option maxRecDepth 100000 in
theorem copy_any (base : Nat) (w : World) (p H : Nat) (rv : Value) (m : List UInt8) (hD : Dig base w p H rv m) :
    Calls Tryz.prog 151 #[.pointer (some ⟨p, 0, none⟩)] w fun e w' => ∃ v p' H' rv', e = .returned v ∧ NewDig w w' v m p' H' rv' := by
  obtain ⟨ra, rc, hrv, hrc, hrc2⟩ := hD.shape
  have c0 := cell_at hD.hp 0 _ rfl
  have c1 := cell_at hD.hp 1 _ rfl
  have c2 := cell_at hD.hp 2 _ rfl
  rw [hrv] at c1
  have hml := hD.hr.1
  rw [bcells_length] at hml
  have HRV := Bx.mk hrv; have HD := Bx.mk hD; have HML := Bx.mk hml; clear hrv hD hml
  go_enter Tryz.func151, Tryz.ntmps151
  have hsi : (Tryz.prog.info? 230).map (·.size) = some (vals (fold R0 m (m.length / 64)).list).size := by rw [size8, vals_size]; rfl
  have hso : (vals zeros8).size = (vals (fold R0 m (m.length / 64)).list).size := by rw [vals_size, vals_size]; rfl
  have HSI := Bx.mk hsi; have HSO := Bx.mk hso; clear hsi hso
  go_upto_region 4 with (first
    | (refine wpList_load_row rfl 230 (.tmp 17) rfl H rfl _ _ _ _ HD.out.hH under8 rfl HSI.out ?_)
    | (refine wpList_store_row rfl 230 (.tmp 3) (.tmp 18) rfl w.heap.size (vals (fold R0 m (m.length / 64)).list) rfl rfl _ (vals zeros8) (heap_alloc_new _ _) HSI.out HSO.out (vals_one _) ?_; rw [setRow_alloc_new _ _ _ _ _ rfl]))
  generalize hW : w.alloc (.cells (vals (fold R0 m (m.length / 64)).list) 230) = W
  have hps : p < w.heap.size := (Array.getElem?_eq_some_iff.1 HD.out.hp).1
  have k1 : Keep (fun _ => False) w W := by rw [← hW]; exact Keep.alloc _ _ _
  have hWH : W.heap[w.heap.size]? = some (.cells (vals (fold R0 m (m.length / 64)).list) 230 (0, 0)) := by rw [← hW]; exact heap_alloc_new _ _
  have hWs : W.heap.size = w.heap.size + 1 := by rw [← hW]; simp
  have d1 := HD.out.kept k1 (fun h => h) (fun h => h) (fun _ _ h => h)
  have b1 := cell_at d1.hp 1 _ rfl
  have b2 := cell_at d1.hp 2 _ rfl
  rw [HRV.out] at b1
  have hown := d1.hr
  rw [HRV.out] at hown
  obtain ⟨hnil, hnews⟩ := own_src hown
  obtain ⟨i0, hi, hz0, hz1, hz2⟩ := info_parts info8
  have hroom : 0 + m.length % 64 ≤ maxLen := by unfold maxLen; omega
  have hby : (0 + m.length % 64) * 1 ≤ 140737488355328 := by omega
  have hn0 := World.ownsRow_nil W.drew W.heap.size 5 1
  have RI := Bx.mk (And.intro hi (And.intro hz0 (And.intro hz1 hz2))); have R1 := Bx.mk hroom; have R2 := Bx.mk hby; have R0' := Bx.mk hn0; have RN := Bx.mk hnil; have RS := Bx.mk hnews
  have K1 := Bx.mk k1; have WH := Bx.mk hWH; have WS := Bx.mk hWs
  clear hi hz0 hz1 hz2 hroom hby hn0 hnil hnews hown d1 k1 hWH hWs hW c0 c1 c2
  have hf : ∀ w1 : World, W.grownBy w1 none → w1.cell? ⟨p, 2, none⟩ = some (.int .u64 (m.length : Int)) := fun w1 hg => (World.cell?_of_block (w := W) (a := ⟨p, 2, none⟩) (hg.block p (by rw [WS.out]; omega) (by simp))).trans b2
  have RF := Bx.mk hf; clear hf
  go_region_law (refine step_append_src rfl (.const (.slice none 0 0)) (.tmp 22) 116 rfl W.heap.size 5 i0 (.int .u8 0) 1 1 underB RI.out.1 RI.out.2.1 RI.out.2.2.1 RI.out.2.2.2 rfl (by decide) (.slice none 0 0) 0 [] rfl R0'.out ra (m.length % 64) rc (bcells (m.drop (64 * (m.length / 64)))) rfl RN.out (by simp [bcells]; omega) RS.out (bcells_one _) R1.out R2.out (Nat.le_refl _) ?_; intro v' w1 hown' hgrow hfr; replace hgrow := grownBy_undrew hgrow; have G1 := Bx.mk hgrow; have O1 := Bx.mk hown'; obtain ⟨va, vc, hv', hn1, hn2, hn3⟩ := own_shape hown'; clear hgrow hfr hown'; have q0 := RF.out w1 G1.out; subst hv')
  all_goals
    go_wp2_with fail
    go_ret
    have g1 : Keep (fun _ => False) W w1 := (Keep.of_grown G1.out).mono fun k _ h => by cases h
    have g0 : Below w.heap.size w w1 := (K1.out.trans g1 (fun _ _ h => h)).below (Nat.le_refl _) (fun _ h => h.elim)
    have hs : w.heap.size + 1 ≤ w1.heap.size := by have := g1.size; rw [WS.out] at this; exact this
    refine ⟨_, w1.heap.size, w.heap.size, _, rfl, rfl, ⟨heap_alloc_new _ _, ?_, ?_, by omega, Nat.le_refl _⟩, g0.alloc (by omega) _⟩
    · rw [Below.heap_alloc _ _ _ (by omega)]
      exact (g1.block _ (by rw [WS.out]; omega) (fun h => h)).trans WH.out
    · have := O1.out
      rw [Nat.zero_add] at this
      exact ownsRow_mono (this.alloc _) (by rw [WS.out]; omega)
end Go.Proofs.YtgbafjmklefoiaaGreatDoor
end
section
namespace Go.Proofs.YtgbafjmklefoiaaGreatDoor
set_option maxRecDepth 100000
open Go.RowKit
def byteOf (x : Int) : UInt8 := UInt8.ofNat (x % 256).toNat
theorem bcell_byteOf (x : Int) : bcell (byteOf x) = .int .u8 (x % 256) := by
  unfold bcell byteOf
  congr 1
  have h1 : 0 ≤ x % 256 := Int.emod_nonneg _ (by decide)
  have h2 : x % 256 < 256 := Int.emod_lt_of_pos _ (by decide)
  rw [UInt8.toNat_ofNat']
  omega
/-- how many noughts stand behind the byte 128 -/
def zerosOf (n : Nat) : Nat := (119 - n % 64) % 64
def be8 (n : Nat) : Nat → List UInt8
  | 0 => []
  | j + 1 => be8 n j ++ [byteOf ((n : Int) / 2 ^ (56 - 8 * j))]
def tailOf (n : Nat) : List UInt8 := 128 :: List.replicate (zerosOf n) 0 ++ be8 (n * 8) 8
def pad (l : List UInt8) : List UInt8 := l ++ tailOf l.length
def out4 (x : Int) : List UInt8 := [byteOf (x / 16777216), byteOf (x / 65536), byteOf (x / 256), byteOf x]
def outOf (l : List Int) : List UInt8 := l.flatMap out4
/-- SHA-256 of bytes -/
def sha (l : List UInt8) : List UInt8 := outOf (fold R0 (pad l) ((pad l).length / 64)).list
theorem be8_length (n j : Nat) : (be8 n j).length = j := by
  induction j with
  | zero => rfl
  | succ j ih => simp [be8, ih]
theorem tailOf_length (n : Nat) : (tailOf n).length = zerosOf n + 9 := by simp [tailOf, be8_length]
theorem zerosOf_lt (n : Nat) : zerosOf n < 64 := by unfold zerosOf; omega
theorem outOf_length (l : List Int) : (outOf l).length = 4 * l.length := by
  induction l with
  | nil => rfl
  | cons x l ih => simp [outOf, out4] at ih ⊢; omega
theorem sha_length (l : List UInt8) : (sha l).length = 32 := by unfold sha; rw [outOf_length]; rfl
/-- a hash as a value -/
def hv (l : List UInt8) : Value := .agg (bcells l).toArray
/-- the first 4 t letters, then noughts -/
def outT (l : List Int) (t : Nat) : List UInt8 := outOf (l.take t) ++ List.replicate (32 - 4 * t) 0
def ocells (l : List UInt8) : Array Value := (bcells l).toArray
theorem ocells_size (l : List UInt8) : (ocells l).size = l.length := by simp [ocells, bcells]
theorem ocells_one (l : List UInt8) : (ocells l).all (·.oneCell') = true := by
  rw [Array.all_eq_true_iff_forall_mem]; intro x hx; simp [ocells, bcells] at hx; obtain ⟨y, _, rfl⟩ := hx; rfl
theorem outT_length (l : List Int) (t : Nat) (h : l.length = 8) (ht : t ≤ 8) : (outT l t).length = 32 := by
  simp [outT, outOf_length, h]; omega
theorem ocells_set (l : List UInt8) (i : Nat) (b : UInt8) : (ocells l).setIfInBounds i (bcell b) = ocells (l.set i b) := by
  apply Array.ext'
  simp [ocells, bcells]
theorem set_at {α : Type} (a b : List α) (x y : α) (i : Nat) (h : i = a.length) : (a ++ y :: b).set i x = a ++ x :: b := by
  subst h; simp
theorem outT_step (l : List Int) (t : Nat) (h : l.length = 8) (ht : t < 8) :
    ((((outT l t).set (4 * t) (byteOf (l.getD t 0 / 16777216))).set (4 * t + 1) (byteOf (l.getD t 0 / 65536))).set (4 * t + 2) (byteOf (l.getD t 0 / 256))).set (4 * t + 3) (byteOf (l.getD t 0)) = outT l (t + 1) := by
  have hl : (outOf (l.take t)).length = 4 * t := by rw [outOf_length]; simp; omega
  have hr : List.replicate (32 - 4 * t) (0 : UInt8) = 0 :: 0 :: 0 :: 0 :: List.replicate (32 - 4 * (t + 1)) 0 := by
    rw [show 32 - 4 * t = (32 - 4 * (t + 1)) + 1 + 1 + 1 + 1 by omega]; rfl
  have ht' : outOf (l.take (t + 1)) = outOf (l.take t) ++ out4 (l.getD t 0) := by
    have e1 : l.take (t + 1) = l.take t ++ [l[t]] := List.take_succ_eq_append_getElem (by omega)
    have e2 : l.getD t 0 = l[t] := by simp [List.getD, List.getElem?_eq_getElem (show t < l.length by omega)]
    unfold outOf
    rw [e1, e2, List.flatMap_append, List.flatMap_singleton]
  unfold outT
  rw [hr, ht', set_at _ _ _ _ _ hl.symm]
  rw [show ∀ (A : List UInt8) (a b c d : UInt8) (R : List UInt8), A ++ a :: b :: c :: d :: R = (A ++ [a]) ++ b :: c :: d :: R from fun _ _ _ _ _ _ => by simp, set_at _ _ _ _ _ (by simp [hl])]
  rw [show ∀ (A : List UInt8) (a b c d : UInt8) (R : List UInt8), (A ++ [a]) ++ b :: c :: d :: R = (A ++ [a] ++ [b]) ++ c :: d :: R from fun _ _ _ _ _ _ => by simp, set_at _ _ _ _ _ (by simp [hl])]
  rw [show ∀ (A : List UInt8) (a b c d : UInt8) (R : List UInt8), (A ++ [a] ++ [b]) ++ c :: d :: R = (A ++ [a] ++ [b] ++ [c]) ++ d :: R from fun _ _ _ _ _ _ => by simp, set_at _ _ _ _ _ (by simp [hl])]
  simp [out4]
theorem outT_zero (l : List Int) : outT l 0 = List.replicate 32 0 := by simp [outT, outOf]
theorem outT_whole (l : List Int) (h : l.length = 8) : outT l 8 = outOf l := by simp [outT, List.take_of_length_le (show l.length ≤ 8 by omega)]
theorem ocells_get (l : List UInt8) (i : Nat) (h : i < l.length) : (ocells l)[i]? = some (bcell l[i]) := by simp [ocells, bcells, h]
theorem store4 (w3 : World) (T : TypeId) (l : List Int) (k n t : Nat) (x : Int) (h : l.length = 8) (ht : t < 8) (hx : l.getD t 0 = x) :
    ((((((w3.alloc (.cells (ocells (outT l t)) T)).drewN k).drewN n).setCell ⟨w3.heap.size, 4 * t, none⟩ (.int .u8 (x / 16777216 % 256))).setCell ⟨w3.heap.size, 4 * t + 1, none⟩ (.int .u8 (x / 65536 % 256))).setCell
      ⟨w3.heap.size, 4 * t + 2, none⟩ (.int .u8 (x / 256 % 256))).setCell ⟨w3.heap.size, 4 * t + 3, none⟩ (.int .u8 (x % 256)) = (w3.alloc (.cells (ocells (outT l (t + 1))) T)).drewN (k + n) := by
  subst hx
  rw [World.drewN_drewN]
  rw [← bcell_byteOf, ← bcell_byteOf, ← bcell_byteOf, ← bcell_byteOf]
  rw [setCell_drewN', World.setCell_alloc_at _ _ _ _ _ rfl, ocells_set, setCell_drewN', World.setCell_alloc_at _ _ _ _ _ rfl, ocells_set,
    setCell_drewN', World.setCell_alloc_at _ _ _ _ _ rfl, ocells_set, setCell_drewN', World.setCell_alloc_at _ _ _ _ _ rfl, ocells_set, outT_step l t h ht]
theorem zeros_test (n t : Nat) (h : t < zerosOf n) : (n % 64 + (1 + t)) % 64 ≠ 56 := by unfold zerosOf at h; omega
theorem zeros_end (n : Nat) : (n % 64 + (1 + zerosOf n)) % 64 = 56 := by unfold zerosOf; omega
theorem own_to_src {w : World} {base : Nat} {v : Value} {l : List UInt8} {n : Nat} (h : w.ownsRow base 5 1 v n (bcells l)) : Src w v l := by
  have hl : l.length = n := by have := h.1; simpa [bcells] using this
  subst hl
  rcases id h.2 with ⟨rfl, h0⟩ | ⟨g, cap, cur, rfl, hb, hg, h1, h2, h3, h4⟩
  · exact ⟨none, 0, by rw [h0], by omega, by simp [maxLen], fun _ => rfl, fun hn => absurd (List.length_eq_zero_iff.1 h0) hn⟩
  · refine ⟨_, cap, rfl, h1, h2, (fun h => by cases h), fun _ => ⟨g, 0, rfl, (Array.getElem?_eq_some_iff.1 hg).1, fun i hi => ?_⟩⟩
    rw [Nat.zero_add, h.cellAt i (by omega), bcells_get _ _ hi]
end Go.Proofs.YtgbafjmklefoiaaGreatDoor
end
section
namespace Go.Proofs.YtgbafjmklefoiaaGreatDoor
set_option maxRecDepth 100000
open Go.RowKit
theorem underH : Tryz.prog.underlying 81 = some (.array 32 5) := by kernel_rfl
theorem sizeH : (Tryz.prog.info? 81).map (·.size) = some 32 := by kernel_rfl
def zeros32 : Array Value := ocells (List.replicate 32 0)
set_option maxHeartbeats 3200000 in
set_option maxRecDepth 100000 in
theorem dsum_any (base : Nat) (w : World) (p H : Nat) (rv : Value) (m : List UInt8) (hD : Dig base w p H rv m) (hT : Tab w) (hgs : 18 < w.heap.size) (hm : m.length < 576460752303423488) :
    Calls Tryz.prog 138 #[.pointer (some ⟨p, 0, none⟩)] w fun e w' => e = .returned (hv (sha m)) ∧ Below w.heap.size w w' := by
  have k0 : Keep (fun _ => False) w (w.alloc (.cells zeros32 81)) := Keep.alloc _ _ _
  have d0 := hD.kept k0 (fun h => h) (fun h => h) (fun _ _ h => h)
  have t0 := hT.kept k0 hgs (fun h => h)
  have r0 : (w.alloc (.cells zeros32 81)).heap[w.heap.size]? = some (.cells zeros32 81 (0, 0)) := heap_alloc_new _ _
  have s0 : (w.alloc (.cells zeros32 81)).heap.size = w.heap.size + 1 := by simp
  have HD := Bx.mk hD; have HT := Bx.mk hT; have K0 := Bx.mk k0; have D0 := Bx.mk d0; have T0 := Bx.mk t0; have R0 := Bx.mk r0; have S0 := Bx.mk s0
  clear hD hT k0 d0 t0 r0 s0
  go_enter Tryz.func138, Tryz.ntmps138
  go_upto_region 1 with (fail)
  change Code.wp _ _ _ _ (w.alloc (.cells zeros32 81))
  generalize w.alloc (.cells zeros32 81) = W at K0 D0 T0 R0 S0 ⊢
  have c0 := cell_at D0.out.hp 0 _ rfl
  have hc := copy_any base W p H rv m D0.out
  have HC := Bx.mk hc; clear hc
  go_wp2_with fail
  refine HC.out.mono ?_
  rintro e w1 ⟨v1, p1, H1, rv1, rfl, hN⟩
  have hv1 := hN.val
  subst hv1
  have kb := Keep.of_below hN.below (fun _ => False)
  have d1 := D0.out.kept kb (fun h => h) (fun h => h) (fun _ _ h => h)
  obtain ⟨ra, rc, hrv, hrc, hrc2⟩ := d1.shape
  have b1 := cell_at d1.hp 1 _ rfl
  have b2 := cell_at d1.hp 2 _ rfl
  rw [hrv] at b1
  have t1 := T0.out.kept kb (by rw [S0.out]; omega) (fun h => h)
  have hpw : p < w1.heap.size := (Array.getElem?_eq_some_iff.1 d1.hp).1
  have NN := Bx.mk hN; have D1 := Bx.mk d1; have T1 := Bx.mk t1; have HRV := Bx.mk hrv; have KB := Bx.mk kb
  clear hN d1 t1 hrv kb c0 HC
  go_upto_block 0 with (fail)
  go_cut [5] (fun v wc => Below w1.heap.size w1 wc ∧ wc.ownsRow w1.heap.size 5 1 v (1 + zerosOf m.length) (bcells (128 :: List.replicate (zerosOf m.length) 0)))
  case first =>
    go_wp2_with fail
    go_loopw [5] (fun v wr => ∃ t, t ≤ zerosOf m.length ∧ Below w1.heap.size w1 wr ∧ wr.ownsRow w1.heap.size 5 1 v (1 + t) (bcells (128 :: List.replicate t 0))) (fun v _ => 1 + zerosOf m.length - lenOf v)
    case atStart =>
      refine ⟨0, Nat.zero_le _, (Below.refl _ _).alloc (Nat.le_refl _) _, ?_⟩
      exact World.ownsRow_lit w1 _ 1 (Nat.le_refl _) (by simp [maxLen]) rfl
    case round =>
      obtain ⟨t, ht, hb, ho⟩ := hrel
      obtain ⟨a5, c5, hv5, q1, q2, q3⟩ := own_shape ho
      subst hv5
      have e1 : wr.cell? ⟨p, 1, none⟩ = some (.slice ra (m.length % 64) rc) := (hb.cell (p := ⟨p, 1, none⟩) hpw).trans b1
      have HB := Bx.mk hb; have HO := Bx.mk ho
      have hz := zerosOf_lt m.length
      clear hb ho
      by_cases hlt : t < zerosOf m.length
      · have hne := zeros_test m.length t hlt
        have hne2 : ((((m.length : Int) % 64 + (1 + (t : Int))) % 64) != 56) = true := by rw [bne_iff_ne]; omega
        have NE := Bx.mk hne; clear hne
        have hroom : 1 + t + 1 ≤ maxLen := by unfold maxLen; omega
        have hby : (1 + t + 1) * 1 ≤ 140737488355328 := by omega
        obtain ⟨i0, hi, hz0, hz1, hz2⟩ := info_parts info8
        have hoa := HO.out.alloc (.cells #[.int .u8 0] 5)
        have hba : w1.heap.size ≤ (wr.alloc (.cells #[.int .u8 0] 5)).heap.size := by have := HB.out.size; simp; omega
        have hnw : ∀ ad, some (⟨wr.heap.size, 0, none⟩ : Addr) = some ad → ∀ j u, (bcells [0])[j]? = some u → (wr.alloc (.cells #[.int .u8 0] 5)).cell? (ad.add j) = some u := by
          rintro ad had j u hj
          cases had
          match j, hj with
          | 0, hj => simp [bcells, bcell] at hj; subst hj; simp [Addr.add]
        have RI := Bx.mk (And.intro hi (And.intro hz0 (And.intro hz1 hz2))); have Q1 := Bx.mk hroom; have Q2 := Bx.mk hby; have Q3 := Bx.mk hoa; have Q4 := Bx.mk hba; have Q5 := Bx.mk hnw
        clear hi hz0 hz1 hz2 hroom hby hoa hba hnw
        go_wp2_with (refine wpList_append_src rfl (.tmp 38) (.tmp 39) 116 rfl w1.heap.size 5 i0 (.int .u8 0) 1 1 underB RI.out.1 RI.out.2.1 RI.out.2.2.1 RI.out.2.2.2 rfl (by decide) (.slice a5 (1 + t) c5) _ _ rfl Q3.out (some ⟨wr.heap.size, 0, none⟩) 1 1 (bcells [0]) rfl (by simp) rfl Q5.out (bcells_one _) Q1.out Q2.out Q4.out ?_; intro v' w2 hown' hgrow hfr; have G1 := Bx.mk hgrow; have O1 := Bx.mk hown'; clear hgrow hfr hown')
        go_roundw
        case rel =>
          refine ⟨t + 1, hlt, ?_, ?_⟩
          · exact (HB.out.alloc HB.out.size _).grown G1.out (by have := HB.out.size; simp; omega) (fun k hk => ownsRow_fresh HO.out k hk)
          · have := O1.out
            rw [← bcells_append] at this
            rw [show (128 : UInt8) :: List.replicate (t + 1) 0 = 128 :: List.replicate t 0 ++ [0] by rw [List.replicate_succ']; simp]
            exact this
        case measure =>
          obtain ⟨a6, c6, hv6, _⟩ := own_shape O1.out
          rw [hv6]; simp [lenOf]; omega
      · obtain rfl : t = zerosOf m.length := by omega
        have hne := zeros_end m.length
        have hne2 : ((((m.length : Int) % 64 + (1 + (zerosOf m.length : Int))) % 64) != 56) = false := by rw [bne_eq_false_iff_eq]; omega
        have NE := Bx.mk hne; clear hne
        go_wp2_with fail
        go_meet
        case rel => exact ⟨HB.out, HO.out⟩
  case rest =>
    obtain ⟨hb5, ho5⟩ := hcut
    have HB5 := Bx.mk hb5; have HO5 := Bx.mk ho5
    clear hb5 ho5
    obtain ⟨a5, c5, hv5, -, -, -⟩ := own_shape HO5.out
    subst hv5
    have hm8 : (m.length : Int) * 8 ≤ 4611686018427387904 := by omega
    have NOT := True.intro
    go_upto_block 2 with (fail)
    go_cut [5] (fun v wc => Below w1.heap.size w1 wc ∧ wc.ownsRow w1.heap.size 5 1 v (tailOf m.length).length (bcells (tailOf m.length)))
    case first =>
      go_wp2_with fail
      go_loopw [5, 6] (fun v i wr => ∃ t : Nat, t ≤ 8 ∧ i = .int .i64 (56 - 8 * (t : Int)) ∧ Below w1.heap.size w1 wr ∧ wr.ownsRow w1.heap.size 5 1 v (1 + zerosOf m.length + t) (bcells (128 :: List.replicate (zerosOf m.length) 0 ++ be8 (m.length * 8) t))) (fun _ i _ => (intOf i + 8).toNat)
      case atStart => exact ⟨0, Nat.zero_le _, rfl, HB5.out, by simpa [be8] using HO5.out⟩
      case round =>
        obtain ⟨t, ht, rfl, hb, ho⟩ := hrel
        obtain ⟨a6, c6, hv6, q1, q2, q3⟩ := own_shape ho
        subst hv6
        have HB := Bx.mk hb; have HO := Bx.mk ho
        have hz := zerosOf_lt m.length
        clear hb ho
        by_cases hlt : t < 8
        · have hroom : 1 + zerosOf m.length + t + 1 ≤ maxLen := by unfold maxLen; omega
          have hby : (1 + zerosOf m.length + t + 1) * 1 ≤ 140737488355328 := by omega
          have h0t : 0 ≤ 56 - 8 * (t : Int) := by omega
          have h1t : 56 - 8 * (t : Int) ≤ 64 := by omega
          have hu : byteOf (((m.length * 8 : Nat) : Int) / 2 ^ (56 - 8 * t)) = byteOf (((m.length : Int) * 8) / 2 ^ (56 - 8 * t)) := by push_cast; rfl
          obtain ⟨i0, hi, hz0, hz1, hz2⟩ := info_parts info8
          have hval := bcell_byteOf (((m.length : Int) * 8) / 2 ^ (56 - 8 * t))
          have hoa := fun u => HO.out.alloc (.cells #[u] 5)
          have hba : ∀ u, w1.heap.size ≤ (wr.alloc (.cells #[u] 5)).heap.size := fun u => by have := HB.out.size; simp; omega
          have hnw : ∀ u : Value, u.oneCell' = true → ∀ ad, some (⟨wr.heap.size, 0, none⟩ : Addr) = some ad → ∀ j x, [u][j]? = some x → (wr.alloc (.cells #[u] 5)).cell? (ad.add j) = some x := by
            rintro u hu ad had j x hj
            cases had
            match j, hj with
            | 0, hj => simp at hj; subst hj; simp [Addr.add]
          have RI := Bx.mk (And.intro hi (And.intro hz0 (And.intro hz1 hz2))); have Q1 := Bx.mk hroom; have Q2 := Bx.mk hby; have Q3 := Bx.mk hoa; have Q4 := Bx.mk hba; have Q5 := Bx.mk hnw; have Q6 := Bx.mk hval; have Q7 := Bx.mk hu
          clear hi hz0 hz1 hz2 hroom hby hoa hba hnw hval hu
          go_wp2_with (refine wpList_append_src rfl (.tmp 45) (.tmp 50) 116 rfl w1.heap.size 5 i0 (.int .u8 0) 1 1 underB RI.out.1 RI.out.2.1 RI.out.2.2.1 RI.out.2.2.2 rfl (by decide) (.slice a6 (1 + zerosOf m.length + t) c6) _ _ rfl (Q3.out _) (some ⟨wr.heap.size, 0, none⟩) 1 1 [.int .u8 (((m.length : Int) * 8) / 2 ^ (56 - 8 * t) % 256)] rfl (by simp) rfl (Q5.out _ rfl) (by simp [Value.oneCell']) Q1.out Q2.out (Q4.out _) ?_; intro v' w2 hown' hgrow hfr; have G1 := Bx.mk hgrow; have O1 := Bx.mk hown'; clear hgrow hfr hown')
          go_roundw
          case rel =>
            refine ⟨t + 1, hlt, by go_num, ?_, ?_⟩
            · exact (HB.out.alloc HB.out.size _).grown G1.out (by have := HB.out.size; simp; omega) (fun k hk => ownsRow_fresh HO.out k hk)
            · have := O1.out
              rw [← Q6.out, ← Q7.out] at this
              rw [be8, ← List.append_assoc, bcells_append]
              exact this
          case measure => simp [intOf]; omega
        · obtain rfl : t = 8 := by omega
          go_wp2_with fail
          go_meet
          case rel => exact ⟨HB.out, by rw [tailOf_length, show zerosOf m.length + 9 = 1 + zerosOf m.length + 8 by omega]; exact HO.out⟩
    case rest =>
      obtain ⟨hb6, ho6⟩ := hcut
      have hsrc := own_to_src ho6
      obtain ⟨a7, c7, hv7, q1, q2, q3⟩ := own_shape ho6
      subst hv7
      have kb6 := Keep.of_below hb6 (fun _ => False)
      have n6 := NN.out.dig.kept kb6 (fun h => h) (fun h => h) (fun _ _ h => h)
      have t6 := T1.out.kept kb6 (by have := KB.out.size; rw [S0.out] at this; omega) (fun h => h)
      have hne : ∀ k, (Value.slice a7 (tailOf m.length).length c7).ownBlock = some k → k ≠ p1 ∧ k ≠ H1 ∧ rv1.ownBlock ≠ some k := fun k hk => by
        have h1 := ownsRow_fresh ho6 k hk
        have h2 := (Array.getElem?_eq_some_iff.1 NN.out.dig.hp).1
        have h3 := (Array.getElem?_eq_some_iff.1 NN.out.dig.hH).1
        refine ⟨by omega, by omega, fun h => ?_⟩
        have := (NN.out.dig.hr.lt k h).2
        omega
      have hcw := write_any W.heap.size wc p1 H1 rv1 _ m (tailOf m.length) n6 t6 (by rw [S0.out]; omega) hsrc hne (by have := zerosOf_lt m.length; rw [tailOf_length]; omega) (Nat.le_trans KB.out.size hb6.size)
      have HCW := Bx.mk hcw; have HB6 := Bx.mk hb6
      clear hcw hsrc kb6 n6 t6 hne hb6 ho6 hrc hrc2 b1 b2
      go_wp2_with fail
      refine HCW.out.mono ?_
      rintro e w3 ⟨rfl, rv3, hd3, hk3, ho3⟩
      have hb3 : Below W.heap.size W w3 := (Below.trans NN.out.below (HB6.out.mono KB.out.size)).trans (hk3.below (Nat.le_trans KB.out.size HB6.out.size) (fun k hk => NN.out.dig.ge k hk))
      have D3 := Bx.mk hd3; have B3 := Bx.mk hb3
      clear hd3 hk3 ho3 HCW
      have g0 := cell_at D3.out.hp 0 _ rfl
      have hp1 : p1 < w3.heap.size := (Array.getElem?_eq_some_iff.1 D3.out.hp).1
      generalize hX : fold Go.Proofs.YtgbafjmklefoiaaGreatDoor.R0 (m ++ tailOf m.length) ((m ++ tailOf m.length).length / 64) = X
      have hHX := D3.out.hH
      rw [hX] at hHX
      have HX := Bx.mk hX; have HHX := Bx.mk hHX
      clear hX hHX
      go_upto_block 4 with (fail)
      go_cut [] (fun wc => ∃ k, wc = (w3.alloc (.cells (ocells (outOf X.list)) 81)).drewN k)
      case first =>
        go_wp2_with fail
        go_loopw [59] (fun i wr => ∃ t k : Nat, t ≤ 8 ∧ i = .int .i64 t ∧ wr = (w3.alloc (.cells (ocells (outT X.list t)) 81)).drewN k) (fun i _ => 8 - (intOf i).toNat)
        case atStart => exact ⟨0, 0, by omega, rfl, by rw [outT_zero]; rfl⟩
        case round =>
          obtain ⟨t, k, ht, rfl, rfl⟩ := hrel
          by_cases hlt : t < 8
          · have hHs : H1 < w3.heap.size := (Array.getElem?_eq_some_iff.1 HHX.out).1
            have c0 := cell_old w3 (.cells (ocells (outT X.list t)) 81) k H1 _ _ hHs (cell_of_vals HHX.out t (by simpa [R8.list] using hlt))
            have hl := outT_length X.list t rfl ht
            have cs : ∀ j, j < 32 → ∃ v, ((w3.alloc (.cells (ocells (outT X.list t)) 81)).drewN k).cell? ⟨w3.heap.size, j, none⟩ = some v := fun j hj => by
              rw [World.cell?_drewN, World.cell?_alloc_at _ _ _ _ rfl]
              exact ⟨_, ocells_get _ j (by omega)⟩
            have fs : ∀ j, ((w3.alloc (.cells (ocells (outT X.list t)) 81)).drewN k).frozen? ⟨w3.heap.size, j, none⟩ = false := fun j => by
              rw [World.frozen?_drewN, World.frozen?_alloc_at _ _ _ _ rfl]
            obtain ⟨x0, k0⟩ := cs (4 * t) (by omega)
            obtain ⟨x1, k1⟩ := cs (4 * t + 1) (by omega)
            obtain ⟨x2, k2⟩ := cs (4 * t + 2) (by omega)
            obtain ⟨x3, k3⟩ := cs (4 * t + 3) (by omega)
            have f0 := fs (4 * t); have f1 := fs (4 * t + 1); have f2 := fs (4 * t + 2); have f3 := fs (4 * t + 3)
            clear cs fs hl
            generalize hW : (w3.alloc (.cells (ocells (outT X.list t)) 81)).drewN k = V at c0 k0 k1 k2 k3 f0 f1 f2 f3 ⊢
            have HV := Bx.mk hW; clear hW
            generalize hx : X.list.getD t 0 = x at c0
            have HXX := Bx.mk hx; clear hx
            have i0 : 0 ≤ 4 * (t : Int) := by omega
            have i1 : 4 * (t : Int) < 32 := by omega
            go_wp2_with fail
            go_quiet (fail)
            go_wp2_with fail
            go_roundw
            case rel =>
              refine ⟨t + 1, k + nq, hlt, by go_num, ?_⟩
              rw [← HV.out]
              exact store4 w3 81 X.list k nq t x rfl hlt HXX.out
            case measure => simp [intOf]; omega
          · obtain rfl : t = 8 := by omega
            go_wp2_with fail
            go_meet
            case rel => exact ⟨k, by rw [outT_whole _ rfl]⟩
      case rest =>
        obtain ⟨k, rfl⟩ := hcut
        have hw3 : w.heap.size < w3.heap.size := by have := B3.out.size; rw [S0.out] at this; omega
        have q0 : ((w3.alloc (.cells (ocells (outOf X.list)) 81)).drewN k).heap[w3.heap.size]? = some (.cells (ocells (outOf X.list)) 81 (0, 0)) := heap_alloc_new _ _
        have q1 : ((w3.alloc (.cells (ocells (outOf X.list)) 81)).drewN k).heap[w.heap.size]? = some (.cells zeros32 81 (0, 0)) := by
          rw [World.heap_drewN, Below.heap_alloc _ _ _ hw3]
          exact (B3.out.block _ (by rw [S0.out]; omega)).trans R0.out
        have q2 : Below w.heap.size w ((w3.alloc (.cells (ocells (outOf X.list)) 81)).drewN k) := below_drewN' (((K0.out.below (Nat.le_refl _) (fun _ h => h.elim)).trans (B3.out.mono (by rw [S0.out]; omega))).alloc (by omega) _) k
        generalize (w3.alloc (.cells (ocells (outOf X.list)) 81)).drewN k = Y at q0 q1 q2 ⊢
        have Q0 := Bx.mk q0; have Q1 := Bx.mk q1; have Q2 := Bx.mk q2; clear q0 q1 q2
        have hsz : (Tryz.prog.info? 81).map (·.size) = some (ocells (outOf X.list)).size := by rw [sizeH, ocells_size, outOf_length]; rfl
        have hso : zeros32.size = (ocells (outOf X.list)).size := by unfold zeros32; rw [ocells_size, ocells_size, outOf_length]; rfl
        have HSZ := Bx.mk hsz; have HSO := Bx.mk hso; clear hsz hso
        go_upto_region 19 with (fail)
        apply wp_region_lit
        refine wpList_load_row rfl 81 (.tmp 7) rfl w3.heap.size rfl _ _ _ _ Q0.out underH rfl HSZ.out ?_
        refine wpList_store_row rfl 81 (.tmp 2) (.tmp 92) rfl w.heap.size (ocells (outOf X.list)) rfl rfl _ _ Q1.out HSZ.out HSO.out (ocells_one _) ?_
        refine wpList_nil ?_
        go_wp2_with fail
        refine bodyPost_ret (results_cell_row rfl _ _ w.heap.size _ (ocells (outOf X.list)) _ _ rfl (setRow_heap _ _ _ _ _ _ Q1.out) underH rfl HSZ.out) rfl ⟨?_, below_setRow Q2.out (Nat.le_refl _) _⟩
        have hs : sha m = outOf X.list := by rw [← HX.out]; rfl
        rw [hs]; rfl
end Go.Proofs.YtgbafjmklefoiaaGreatDoor
end
section
namespace Go.Proofs.YtgbafjmklefoiaaGreatDoor
set_option maxRecDepth 100000
open Go.RowKit
def OwnF (base : Nat) (w : World) (v : Value) (l : List UInt8) : Prop :=
  (v = .slice none 0 0 ∧ l = []) ∨ ∃ g cap, v = .slice (some ⟨g, 0, none⟩) l.length cap ∧ base ≤ g ∧ g < w.heap.size ∧ l.length ≤ cap ∧ cap ≤ maxLen ∧
    (∀ i, (h : i < l.length) → w.cell? ⟨g, i, none⟩ = some (bcell l[i])) ∧ ∀ i, i < cap → (w.cell? ⟨g, i, none⟩).isSome = true ∧ w.frozen? ⟨g, i, none⟩ = false
theorem OwnF.shape {base : Nat} {w : World} {v : Value} {l : List UInt8} (h : OwnF base w v l) : ∃ a c, v = .slice a l.length c ∧ l.length ≤ c ∧ c ≤ maxLen ∧ (a = none → c = 0 ∧ l.length = 0) := by
  rcases h with ⟨rfl, rfl⟩ | ⟨g, cap, rfl, _, _, h1, h2, _⟩
  · exact ⟨none, 0, rfl, Nat.le_refl _, by simp [maxLen], fun _ => ⟨rfl, rfl⟩⟩
  · exact ⟨_, cap, rfl, h1, h2, fun e => by cases e⟩
theorem OwnF.src {base : Nat} {w : World} {v : Value} {l : List UInt8} (h : OwnF base w v l) : Src w v l := by
  rcases h with ⟨rfl, rfl⟩ | ⟨g, cap, rfl, _, hg, h1, h2, h3, _⟩
  · exact ⟨none, 0, rfl, Nat.le_refl _, by simp [maxLen], fun _ => rfl, fun h => absurd rfl h⟩
  · exact ⟨_, cap, rfl, h1, h2, (fun e => by cases e), fun _ => ⟨g, 0, rfl, hg, fun i hi => by rw [Nat.zero_add]; exact h3 i hi⟩⟩
theorem OwnF.fresh {base : Nat} {w : World} {v : Value} {l : List UInt8} (h : OwnF base w v l) (k : Nat) (hk : v.ownBlock = some k) : base ≤ k ∧ k < w.heap.size := by
  rcases h with ⟨rfl, rfl⟩ | ⟨g, cap, rfl, hb, hg, _⟩
  · cases hk
  · obtain rfl : g = k := by simpa [Value.ownBlock] using hk
    exact ⟨hb, hg⟩
theorem OwnF.kept {base : Nat} {w w' : World} {v : Value} {l : List UInt8} {S : Nat → Prop} (h : OwnF base w v l) (k : Keep S w w') (hs : ∀ j, v.ownBlock = some j → ¬ S j) : OwnF base w' v l := by
  rcases h with hn | ⟨g, cap, rfl, hb, hg, h1, h2, h3, h4⟩
  · exact .inl hn
  · have hk := k.block g hg (hs g rfl)
    refine .inr ⟨g, cap, rfl, hb, Nat.lt_of_lt_of_le hg k.size, h1, h2, fun i hi => ?_, fun i hi => ?_⟩
    · rw [World.cell?_of_block (w := w) (a := ⟨g, i, none⟩) hk]; exact h3 i hi
    · rw [World.cell?_of_block (w := w) (a := ⟨g, i, none⟩) hk, World.frozen?_of_block (w := w) (a := ⟨g, i, none⟩) hk]; exact h4 i hi
theorem OwnF.of_row {base : Nat} {w : World} {v : Value} {l : List UInt8} {n : Nat} (h : w.ownsRow base 5 1 v n (bcells l)) : OwnF base w v l := by
  have hl : l.length = n := by have := h.1; simpa [bcells] using this
  subst hl
  rcases id h.2 with ⟨rfl, h0⟩ | ⟨g, cap, cur, rfl, hb, hg, h1, h2, h3, h4⟩
  · exact .inl ⟨rfl, List.length_eq_zero_iff.1 h0⟩
  · refine .inr ⟨g, cap, rfl, hb, (Array.getElem?_eq_some_iff.1 hg).1, h1, h2, fun i hi => ?_, fun i hi => ⟨?_, h.frozenAt i⟩⟩
    · rw [h.cellAt i (by omega), bcells_get _ _ hi]
    · rw [cell_of_row w g i cur _ _ hg]; simp; omega
theorem World.heap_setCells_other' (w : World) (g o : Nat) (vs : List Value) (k : Nat) (hk : k ≠ g) : (w.setCells g o vs).heap[k]? = w.heap[k]? := by
  induction vs generalizing o w with
  | nil => rfl
  | cons v vs ih => rw [World.setCells, ih, heap_setCell_other _ _ _ _ (by simpa using hk)]
theorem World.size_setCells' (w : World) (g o : Nat) (vs : List Value) : (w.setCells g o vs).heap.size = w.heap.size := by
  induction vs generalizing o w with
  | nil => rfl
  | cons v vs ih => rw [World.setCells, ih]; simp [World.setCell]
theorem World.os_setCells' (w : World) (g o : Nat) (vs : List Value) : (w.setCells g o vs).os = w.os := by
  induction vs generalizing o w with
  | nil => rfl
  | cons v vs ih => rw [World.setCells, ih]; rfl
theorem World.tape_setCells' (w : World) (g o : Nat) (vs : List Value) : (w.setCells g o vs).tape = w.tape := by
  induction vs generalizing o w with
  | nil => rfl
  | cons v vs ih => rw [World.setCells, ih]; rfl
theorem World.output_setCells' (w : World) (g o : Nat) (vs : List Value) : (w.setCells g o vs).output = w.output := by
  induction vs generalizing o w with
  | nil => rfl
  | cons v vs ih => rw [World.setCells, ih]; rfl
theorem run_append_F {P : Program} {w : World} (t ty : TypeId) (base : Nat) (e : TypeId) (i : TypeInfo) (z : Value) (ht : P.underlying t = some (.slice e)) (hi : P.info? e = some i) (hz : i.zero = some z)
    (hsize : i.size = 1) (hby : i.bytes = 1) (hzs : z.cells.size = 1) (he : e = 5)
    (v : Value) (l : List UInt8) (hown : OwnF base w v l)
    (xa : Option Addr) (c : Nat) (l' : List UInt8) (hnil : xa = none → c = 0 ∧ l'.length = 0)
    (hnews : ∀ ad, xa = some ad → ∀ j u, (bcells l')[j]? = some u → w.cell? (ad.add j) = some u)
    (hlen : l.length + l'.length ≤ 140737488355328) (hbase : base ≤ w.heap.size) :
    ∃ v' w', (Builtin.append_ #[t, t] ty #[v, .slice xa l'.length c]).run P w = .ok v' w' ∧ OwnF base w' v' (l ++ l') ∧ w.grownBy w' v.ownBlock ∧ (v'.ownBlock = v.ownBlock ∨ ∀ k, v'.ownBlock = some k → w.heap.size ≤ k) := by
  have h63 : l.length + l'.length ≤ maxLen := by unfold maxLen; omega
  cases xa with
  | none =>
    obtain ⟨rfl, h0⟩ := hnil rfl
    obtain rfl := List.length_eq_zero_iff.1 h0
    refine ⟨v, w, ?_, by simpa using hown, World.grownBy.refl w _, .inl rfl⟩
    rcases hown with ⟨rfl, rfl⟩ | ⟨g, cap, rfl, _, _, h1, h2, _⟩
    · simp [Builtin.append_, run_underlying ht, sizeOf, typeInfo, hi, Builtin.lenOf, Builtin.firstCells]
    · simp [Builtin.append_, run_underlying ht, sizeOf, typeInfo, hi, Builtin.lenOf, Builtin.firstCells, h1, storeCells]
  | some ad =>
    have hnews := hnews ad rfl
    rcases id hown with ⟨rfl, rfl⟩ | ⟨g, cap, rfl, hb, hg, h1, h2, h3, h4⟩
    · obtain ⟨v', w', a1, a2, a3, _⟩ := run_append_own (P := P) w w.heap.size t ty e i z 1 1 ht hi hz hsize hby hzs (by decide) _ 0 [] (World.ownsRow_nil w _ e 1) ad l'.length c (bcells l') (by simp [bcells]) hnews (bcells_one _) (by simpa using h63) (by simpa using hlen) (Nat.le_refl _)
      refine ⟨v', w', a1, ?_, a3, .inr (ownsRow_fresh a2)⟩
      subst he
      exact OwnF.of_row (ownsRow_mono (by simpa using a2) hbase)
    · by_cases hroom : l.length + l'.length ≤ cap
      · have hc : ∀ j, j < (bcells l').length → (w.cell? ⟨g, 0 + l.length * i.size + j, none⟩).isSome = true := fun j hj => by
          rw [hsize, Nat.mul_one, Nat.zero_add]; exact (h4 _ (by simp [bcells] at hj; omega)).1
        have hf : ∀ j, j < (bcells l').length → w.frozen? ⟨g, 0 + l.length * i.size + j, none⟩ = false := fun j hj => by
          rw [hsize, Nat.mul_one, Nat.zero_add]; exact (h4 _ (by simp [bcells] at hj; omega)).2
        have hr := run_append_room_cells (P := P) w t ty e i ht hi g 0 l.length cap ad l'.length c (bcells l') (by simp [bcells, hsize]) hnews (bcells_one _) hroom hc hf
        rw [hsize, Nat.mul_one, Nat.zero_add] at hr
        have hc' : ∀ j, j < (bcells l').length → (w.cell? ⟨g, l.length + j, none⟩).isSome = true := fun j hj => (h4 _ (by simp [bcells] at hj; omega)).1
        have hk : ∀ k, k < w.heap.size → k ≠ g → (w.setCells g l.length (bcells l')).heap[k]? = w.heap[k]? := fun k hk hn => World.heap_setCells_other' w g l.length (bcells l') k hn
        refine ⟨_, _, hr, .inr ⟨g, cap, by rw [List.length_append], hb, ?_, by rw [List.length_append]; exact hroom, h2, fun j hj => ?_, fun j hj => ⟨?_, ?_⟩⟩, ?_, .inl rfl⟩
        · rw [World.size_setCells']; exact hg
        · rw [List.length_append] at hj
          by_cases hjl : j < l.length
          · rw [World.cell?_setCells_out g (bcells l') l.length w ⟨g, j, none⟩ (fun _ _ => .inl hjl), h3 j hjl]
            simp [List.getElem_append_left hjl]
          · have h5 : j - l.length < (bcells l').length := by simp [bcells]; omega
            have := World.cell?_setCells_in g (bcells l') l.length w hc' (j - l.length) h5
            rw [show l.length + (j - l.length) = j by omega] at this
            rw [this]
            simp [bcells, List.getElem_append_right (Nat.le_of_not_lt hjl)]
        · by_cases hin : l.length ≤ j ∧ j < l.length + (bcells l').length
          · have := World.cell?_setCells_in g (bcells l') l.length w hc' (j - l.length) (by omega)
            rw [show l.length + (j - l.length) = j by omega] at this
            rw [this]; rfl
          · rw [World.cell?_setCells_out g (bcells l') l.length w ⟨g, j, none⟩ (fun _ _ => by simp only; omega)]; exact (h4 j hj).1
        · rw [World.frozen?_setCells]; exact (h4 j hj).2
        · exact ⟨World.os_setCells' .., World.tape_setCells' .., World.output_setCells' .., by rw [World.size_setCells']; exact Nat.le_refl _, fun k hk1 hn => hk k hk1 (fun e => hn (by simp [Value.ownBlock, e]))⟩
      · have hol : ∀ j u, (bcells l)[j]? = some u → w.cell? ((⟨g, 0, none⟩ : Addr).add j) = some u := fun j u hj => by
          have hjl : j < l.length := by have := (List.getElem?_eq_some_iff.1 hj).1; simpa [bcells] using this
          rw [bcells_get _ _ hjl] at hj
          rw [← hj]
          by_cases h0 : j = 0
          · subst h0; simpa [Addr.add] using h3 0 hjl
          · simpa [Addr.add, h0] using h3 j hjl
        obtain ⟨v', w', a1, a2, a3⟩ := run_append_arg_grows (P := P) w t ty e i z 1 1 ht hi hz hsize hby hzs (by decide) ⟨g, 0, none⟩ l.length cap (bcells l) (by simp [bcells]) hol ad l'.length c (bcells l') (by simp [bcells]) hnews (by omega) h63 (by omega)
        refine ⟨v', w', a1, ?_, grownBy_any a3, .inr (ownsRow_fresh a2)⟩
        rw [← bcells_append] at a2
        subst he
        exact OwnF.of_row (ownsRow_mono a2 hbase)
end Go.Proofs.YtgbafjmklefoiaaGreatDoor
end
section
namespace Go.Proofs.YtgbafjmklefoiaaGreatDoor
set_option maxRecDepth 100000
open Go.RowKit
theorem wpList_append_F {P : Program} {ops : Array Oper} {rest : List Oper} {o : Oper} {a : Act} {w : World} {Q : Exit → Act → World → Prop} (hgd : o.guard = none) (s x : Operand) (t : TypeId)
    (ho : o.op = .call { callee := .builtin .append, args := #[s, x], argTypes := #[t, t] })
    (base : Nat) (e : TypeId) (i : TypeInfo) (z : Value) (ht : P.underlying t = some (.slice e)) (hi : P.info? e = some i) (hz : i.zero = some z)
    (hsize : i.size = 1) (hby : i.bytes = 1) (hzs : z.cells.size = 1) (he : e = 5)
    (v : Value) (l : List UInt8) (hs : a.eval s = v) (hown : OwnF base w v l)
    (xa : Option Addr) (c m : Nat) (l' : List UInt8) (hm : l'.length = m) (hx : a.eval x = .slice xa m c) (hnil : xa = none → c = 0 ∧ l'.length = 0)
    (hnews : ∀ ad, xa = some ad → ∀ j u, (bcells l')[j]? = some u → w.cell? (ad.add j) = some u)
    (hlen : l.length + l'.length ≤ 140737488355328) (hbase : base ≤ w.heap.size)
    (h : ∀ v' w', OwnF base w' v' (l ++ l') → w.grownBy w' v.ownBlock → (v'.ownBlock = v.ownBlock ∨ ∀ k, v'.ownBlock = some k → w.heap.size ≤ k) → wpList P ops Q rest (a.put o.dst v') w') : wpList P ops Q (o :: rest) a w :=
  wpList_plain hgd fun K hK => by
    subst hm
    obtain ⟨v', w', hrun, a2, a3, a4⟩ := run_append_F (P := P) (w := w) t o.type base e i z ht hi hz hsize hby hzs he v l hown xa c l' hnil hnews hlen hbase
    unfold Oper.wp
    simp [execOp, ho, resolve, invoke, builtin, hs, hx, hrun, Result.andThen]
    exact hK _ _ (h v' w' a2 a3 a4)
/-- a string's bytes -/
def sb (s : ByteArray) : List UInt8 := s.data.toList
theorem sb_length (s : ByteArray) : (sb s).length = s.size := by
  show s.data.toList.length = s.data.size
  exact Array.length_toList
/-- the row that '[]byte(s)' makes -/
theorem bytesRow_own (w : World) (s : ByteArray) (cap : Nat) (h : s.size ≤ cap) (h2 : cap ≤ maxLen) (fr : Nat × Nat) (hfr : cap ≤ fr.1) :
    OwnF w.heap.size ((w.alloc (.cells (bytesRow s cap) 5 fr)).drew) (.slice (some ⟨w.heap.size, 0, none⟩) s.size cap) (sb s) := by
  have hg : ((w.alloc (.cells (bytesRow s cap) 5 fr)).drew).heap[w.heap.size]? = some (.cells (bytesRow s cap) 5 fr) := heap_alloc_new w _
  have hds : s.data.size = s.size := rfl
  have hsz : (bytesRow s cap).size = cap := by
    unfold bytesRow
    rw [Array.size_append, Array.size_map, Array.size_replicate]
    omega
  refine .inr ⟨w.heap.size, cap, by rw [sb_length], Nat.le_refl _, by simp, by rw [sb_length]; exact h, h2, fun i hi => ?_, fun i hi => ⟨?_, ?_⟩⟩
  · rw [cell_of_row _ _ _ _ _ _ hg]
    have hi' : i < s.data.size := by rw [sb_length] at hi; omega
    unfold bytesRow
    rw [Array.getElem?_append_left (by simpa using hi'), Array.getElem?_map, Array.getElem?_eq_getElem hi']
    rfl
  · rw [cell_of_row _ _ _ _ _ _ hg, Array.getElem?_eq_getElem (by omega)]; rfl
  · have : ¬ fr.1 ≤ i := by omega
    simp only [World.frozen?, hg]
    simp [this]
theorem one_cell (w : World) (u : Value) (_hu : u.oneCell' = true) (n : Nat) (hn : n = w.heap.size) :
    ∀ ad, some (⟨n, 0, none⟩ : Addr) = some ad → ∀ j x, [u][j]? = some x → (w.alloc (.cells #[u] 5)).cell? (ad.add j) = some x := by
  rintro ad had j x hj
  cases had
  subst hn
  match j, hj with
  | 0, hj => simp at hj; subst hj; simp [Addr.add]
set_option maxHeartbeats 1600000 in
set_option maxRecDepth 100000 in
theorem padded_any (w : World) (s : ByteArray) (hs : s.size < 70368744177664) :
    Calls Tryz.prog 144 #[.string s] w fun e w' => ∃ v, e = .returned v ∧ OwnF w.heap.size w' v (pad (sb s)) ∧ Below w.heap.size w w' := by
  have hb0 : Below w.heap.size w ((w.alloc (.cells (bytesRow s (grownCap w s.size 0 5)) 5 ((bytesRow s (grownCap w s.size 0 5)).size, (bytesRow s (grownCap w s.size 0 5)).size + 1))).drew) := ((Below.refl _ _).alloc (Nat.le_refl _) _).drew
  have ho0 := bytesRow_own w s (grownCap w s.size 0 5) (grownCap_ge _ _ _ _) (grownCap_le_maxLen _ _ _ _ (by unfold maxLen; omega)) ((bytesRow s (grownCap w s.size 0 5)).size, (bytesRow s (grownCap w s.size 0 5)).size + 1) (by
    have hds : s.data.size = s.size := rfl
    unfold bytesRow
    rw [Array.size_append, Array.size_map, Array.size_replicate]
    omega)
  have hsl := sb_length s
  obtain ⟨i0, hi, hz0, hz1, hz2⟩ := info_parts info8
  have RI := Bx.mk (And.intro hi (And.intro hz0 (And.intro hz1 (And.intro hz2 hs))))
  have HB0 := Bx.mk hb0; have HO0 := Bx.mk ho0; have HSL := Bx.mk hsl
  clear hi hz0 hz1 hz2 hb0 ho0 hsl
  have kc := fun (w : World) => run_bytes_of_string (P := Tryz.prog) w 9 116 5 s (by kernel_rfl) underB (by kernel_rfl)
  go_enter Tryz.func144, Tryz.ntmps144
  go_upto_region 2 with (fail)
  clear kc
  generalize ((w.alloc (.cells (bytesRow s (grownCap w s.size 0 5)) 5 ((bytesRow s (grownCap w s.size 0 5)).size, (bytesRow s (grownCap w s.size 0 5)).size + 1))).drew) = W at HB0 HO0 ⊢
  generalize grownCap w s.size 0 5 = gc at HO0 ⊢
  have q3 := HO0.out.kept (Keep.alloc (fun _ => False) W (.cells #[.int .u8 128] 5)) (fun _ _ h => h)
  have q4 : w.heap.size ≤ (W.alloc (.cells #[.int .u8 128] 5)).heap.size := by have := HB0.out.size; simp; omega
  have q5 := one_cell W (.int .u8 128) rfl W.heap.size rfl
  have q6 : (sb s).length + 1 ≤ 140737488355328 := by rw [HSL.out]; omega
  have Q3 := Bx.mk q3; have Q4 := Bx.mk q4; have Q5 := Bx.mk q5; have Q6 := Bx.mk q6
  clear q3 q4 q5 q6
  go_wp2_with (refine wpList_append_F rfl (.tmp 8) (.tmp 9) 116 rfl w.heap.size 5 i0 (.int .u8 0) underB RI.out.1 RI.out.2.1 RI.out.2.2.1 RI.out.2.2.2.1 rfl rfl (.slice (some ⟨w.heap.size, 0, none⟩) s.size gc) (sb s) rfl Q3.out (some ⟨W.heap.size, 0, none⟩) 1 1 [128] rfl rfl (by simp) Q5.out Q6.out Q4.out ?_; intro v' w1 ho1 hg1 hf1; have O1 := Bx.mk ho1; have B1 := Bx.mk ((HB0.out.alloc HB0.out.size _).grown hg1 (by have := HB0.out.size; simp; omega) (fun k hk => (HO0.out.fresh k hk).1)); clear ho1 hg1 hf1)
  go_loopw [3] (fun v wr => ∃ t, t ≤ zerosOf s.size ∧ Below w.heap.size w wr ∧ OwnF w.heap.size wr v (sb s ++ (128 :: List.replicate t 0))) (fun v _ => s.size + 1 + zerosOf s.size - lenOf v)
  case atStart => exact ⟨0, Nat.zero_le _, B1.out, O1.out⟩
  case round =>
    obtain ⟨t, ht, hb, ho⟩ := hrel
    obtain ⟨a3, c3, hv3, q1, q2, q3⟩ := ho.shape
    have hln : (sb s ++ (128 :: List.replicate t 0)).length = s.size + 1 + t := by simp [HSL.out]; omega
    rw [hln] at hv3 q1
    subst hv3
    have HB := Bx.mk hb; have HO := Bx.mk ho; have HLN := Bx.mk hln
    have hz := zerosOf_lt s.size
    clear hb ho hln q3
    by_cases hlt : t < zerosOf s.size
    · have hne := zeros_test s.size t hlt
      have hne2 : ((((s.size : Int) + 1 + (t : Int)) % 64) != 56) = true := by rw [bne_iff_ne]; omega
      have NE := Bx.mk hne; clear hne
      have q3 := HO.out.kept (Keep.alloc (fun _ => False) wr (.cells #[.int .u8 0] 5)) (fun _ _ h => h)
      have q4 : w.heap.size ≤ (wr.alloc (.cells #[.int .u8 0] 5)).heap.size := by have := HB.out.size; simp; omega
      have q5 := one_cell wr (.int .u8 0) rfl wr.heap.size rfl
      have q6 : (sb s ++ (128 :: List.replicate t 0)).length + 1 ≤ 140737488355328 := by rw [HLN.out]; omega
      have Q3 := Bx.mk q3; have Q4 := Bx.mk q4; have Q5 := Bx.mk q5; have Q6 := Bx.mk q6
      clear q3 q4 q5 q6
      go_wp2_with (refine wpList_append_F rfl (.tmp 15) (.tmp 16) 116 rfl w.heap.size 5 i0 (.int .u8 0) underB RI.out.1 RI.out.2.1 RI.out.2.2.1 RI.out.2.2.2.1 rfl rfl (.slice a3 (s.size + 1 + t) c3) (sb s ++ (128 :: List.replicate t 0)) rfl Q3.out (some ⟨wr.heap.size, 0, none⟩) 1 1 [0] rfl rfl (by simp) Q5.out Q6.out Q4.out ?_; intro v' w2 ho1 hg1 hf1; have G1 := Bx.mk hg1; have O1 := Bx.mk ho1; clear ho1 hg1 hf1)
      go_roundw
      case rel =>
        refine ⟨t + 1, hlt, (HB.out.alloc HB.out.size _).grown G1.out (by have := HB.out.size; simp; omega) (fun k hk => (HO.out.fresh k hk).1), ?_⟩
        have := O1.out
        rw [List.append_assoc] at this
        rw [show (128 : UInt8) :: List.replicate (t + 1) 0 = 128 :: List.replicate t 0 ++ [0] by rw [List.replicate_succ']; simp]
        exact this
      case measure =>
        obtain ⟨a6, c6, hv6, _⟩ := O1.out.shape
        rw [hv6]; simp only [lenOf, List.length_append]; simp [HSL.out]; omega
    · obtain rfl : t = zerosOf s.size := by omega
      have hne := zeros_end s.size
      have hne2 : ((((s.size : Int) + 1 + (zerosOf s.size : Int)) % 64) != 56) = false := by rw [bne_eq_false_iff_eq]; omega
      have NE := Bx.mk hne; clear hne
      go_wp2_with fail
      go_loopw [3, 5] (fun v i wr => ∃ t : Nat, t ≤ 8 ∧ i = .int .i64 t ∧ Below w.heap.size w wr ∧ OwnF w.heap.size wr v (sb s ++ (128 :: List.replicate (zerosOf s.size) 0) ++ be8 (s.size * 8) t)) (fun _ i _ => 8 - (intOf i).toNat)
      case atStart => exact ⟨0, Nat.zero_le _, rfl, HB.out, by simpa [be8] using HO.out⟩
      case round =>
        clear q1 q2
        obtain ⟨t, ht, rfl, hb, ho⟩ := hrel
        obtain ⟨a4, c4, hv4, q1, q2, q3⟩ := ho.shape
        have hln : (sb s ++ (128 :: List.replicate (zerosOf s.size) 0) ++ be8 (s.size * 8) t).length = s.size + 1 + zerosOf s.size + t := by simp [HSL.out, be8_length]; omega
        rw [hln] at hv4 q1
        subst hv4
        have HB2 := Bx.mk hb; have HO2 := Bx.mk ho; have HLN2 := Bx.mk hln
        clear hb ho hln q3
        by_cases hlt : t < 8
        · have hu : byteOf (((s.size * 8 : Nat) : Int) / 2 ^ (56 - 8 * t)) = byteOf (((s.size : Int) * 8) / 2 ^ (56 - 8 * t)) := by push_cast; rfl
          have hval := bcell_byteOf (((s.size : Int) * 8) / 2 ^ (56 - 8 * t))
          have q3 := fun u => HO2.out.kept (Keep.alloc (fun _ => False) wr (.cells #[u] 5)) (fun _ _ h => h)
          have q4 : ∀ u, w.heap.size ≤ (wr.alloc (.cells #[u] 5)).heap.size := fun u => by have := HB2.out.size; simp; omega
          have q5 := one_cell wr (.int .u8 (((s.size : Int) * 8) / 2 ^ (56 - 8 * t) % 256)) rfl wr.heap.size rfl
          rw [← hval, ← hu] at q5
          have q6 : (sb s ++ (128 :: List.replicate (zerosOf s.size) 0) ++ be8 (s.size * 8) t).length + 1 ≤ 140737488355328 := by rw [HLN2.out]; omega
          have hvv : Value.int .u8 (((s.size : Int) * 8) / 2 ^ (56 - 8 * t) % 256) = bcell (byteOf (((s.size * 8 : Nat) : Int) / 2 ^ (56 - 8 * t))) := by rw [hu, hval]
          have h0t : 0 ≤ 56 - 8 * (t : Int) := by omega
          have h1t : 56 - 8 * (t : Int) ≤ 64 := by omega
          have Q3 := Bx.mk q3; have Q4 := Bx.mk q4; have Q5 := Bx.mk q5; have Q6 := Bx.mk q6; have QV := Bx.mk hvv
          clear q3 q4 q5 q6 hu hval hvv
          go_wp2_with (rw [QV.out]; refine wpList_append_F rfl (.tmp 26) (.tmp 33) 116 rfl w.heap.size 5 i0 (.int .u8 0) underB RI.out.1 RI.out.2.1 RI.out.2.2.1 RI.out.2.2.2.1 rfl rfl (.slice a4 (s.size + 1 + zerosOf s.size + t) c4) (sb s ++ (128 :: List.replicate (zerosOf s.size) 0) ++ be8 (s.size * 8) t) rfl (Q3.out _) (some ⟨wr.heap.size, 0, none⟩) 1 1 [byteOf (((s.size * 8 : Nat) : Int) / 2 ^ (56 - 8 * t))] rfl rfl (by simp) Q5.out Q6.out (Q4.out _) ?_; intro v' w2 ho1 hg1 hf1; have G2 := Bx.mk hg1; have O2 := Bx.mk ho1; clear ho1 hg1 hf1)
          go_roundw
          case rel =>
            refine ⟨t + 1, hlt, by go_num, (HB2.out.alloc HB2.out.size _).grown G2.out (by have := HB2.out.size; simp; omega) (fun k hk => (HO2.out.fresh k hk).1), ?_⟩
            have := O2.out
            rw [List.append_assoc] at this
            exact this
          case measure => simp [intOf]; omega
        · obtain rfl : t = 8 := by omega
          go_wp2_with fail
          go_ret
          refine ⟨_, rfl, ?_, HB2.out⟩
          have := HO2.out
          rw [List.append_assoc, ← HSL.out] at this
          exact this
end Go.Proofs.YtgbafjmklefoiaaGreatDoor
end
section
namespace Go.Proofs.YtgbafjmklefoiaaGreatDoor
set_option maxRecDepth 100000
open Go.RowKit
theorem pad_whole (l : List UInt8) : (pad l).length % 64 = 0 := by
  unfold pad; rw [List.length_append, tailOf_length]; unfold zerosOf; omega
theorem pad_pos (l : List UInt8) : 0 < (pad l).length := by
  unfold pad; rw [List.length_append, tailOf_length]; omega
theorem pad_le (l : List UInt8) : (pad l).length ≤ l.length + 72 := by
  unfold pad; rw [List.length_append, tailOf_length]; have := zerosOf_lt l.length; omega
def outF (l : List Int) (i : Nat) : UInt8 := byteOf (l.getD (i / 4) 0 / 2 ^ (24 - i % 4 * 8))
def outI (l : List Int) (t : Nat) : List UInt8 := (List.range t).map (outF l) ++ List.replicate (32 - t) 0
theorem outI_length (l : List Int) (t : Nat) (h : t ≤ 32) : (outI l t).length = 32 := by simp [outI]; omega
theorem outI_step (l : List Int) (t : Nat) (x : Int) (h : t < 32) (hx : l.getD (t / 4) 0 = x) : (outI l t).set t (byteOf (x / 2 ^ (24 - t % 4 * 8))) = outI l (t + 1) := by
  subst hx
  unfold outI
  rw [show 32 - t = (32 - (t + 1)) + 1 by omega, List.replicate_succ, set_at _ _ _ _ _ (by simp), List.range_succ, List.map_append]
  simp [outF]
theorem outI_whole (l : List Int) (h : l.length = 8) : outI l 32 = outOf l :=
  match l, h with
  | [a, b, c, d, e, f, g, k], _ => by simp [outI, outF, outOf, out4, List.range, List.range.loop]
set_option maxHeartbeats 3200000 in
set_option maxRecDepth 100000 in
theorem rsum_any (w : World) (s : ByteArray) (hs : s.size < 70368744177664) :
    Calls Tryz.prog 133 #[.string s] w fun e w' => e = .returned (hv (sha (sb s))) ∧ Below w.heap.size w w' := by
  have r0 : (w.alloc (.cells zeros32 81)).heap[w.heap.size]? = some (.cells zeros32 81 (0, 0)) := heap_alloc_new _ _
  have s0 : (w.alloc (.cells zeros32 81)).heap.size = w.heap.size + 1 := by simp
  have k0 : Below w.heap.size w (w.alloc (.cells zeros32 81)) := (Below.refl _ _).alloc (Nat.le_refl _) _
  have R0' := Bx.mk r0; have S0 := Bx.mk s0; have K0 := Bx.mk k0
  clear r0 s0 k0
  go_enter Tryz.func133, Tryz.ntmps133
  go_upto_region 1 with (fail)
  change Code.wp _ _ _ _ (w.alloc (.cells zeros32 81))
  generalize w.alloc (.cells zeros32 81) = W at R0' S0 K0 ⊢
  go_wp2_with fail
  refine (padded_any W s hs).mono ?_
  rintro e w1 ⟨v3, rfl, ho1, hb1⟩
  have O1 := Bx.mk ho1; have B1 := Bx.mk hb1; clear ho1 hb1
  go_wp2_with fail
  refine (rtable_any w1).mono ?_
  rintro e w2 ⟨rfl, hb2⟩
  have hkl : ktab.length = 64 := rfl
  have hsi : (Tryz.prog.info? 228).map (·.size) = some (vals ktab).size := by rw [size64, vals_size]; rfl
  have hso : zeros64.size = (vals ktab).size := by rw [vals_size]; rfl
  have HSI := Bx.mk hsi; have HSO := Bx.mk hso; have B2 := Bx.mk hb2; clear hsi hso hb2 hkl
  go_upto_region 3 with (refine wpList_store_row rfl 228 (.tmp 4) (.tmp 11) rfl w2.heap.size (vals ktab) rfl rfl _ zeros64 (heap_alloc_new _ _) HSI.out HSO.out (vals_one _) ?_; rw [setRow_alloc_new _ _ _ _ _ rfl])
  have x0 := heap_alloc_new w2 (.cells (vals ktab) 228)
  have x1 : Below W.heap.size W (w2.alloc (.cells (vals ktab) 228)) := (B1.out.trans (B2.out.mono B1.out.size)).alloc (Nat.le_trans B1.out.size B2.out.size) _
  have x2 : OwnF W.heap.size (w2.alloc (.cells (vals ktab) 228)) v3 (pad (sb s)) := (O1.out.kept (Keep.of_below B2.out (fun _ => False)) (fun _ _ h => h)).kept (Keep.alloc (fun _ => False) _ _) (fun _ _ h => h)
  have x3 : (w2.alloc (.cells (vals ktab) 228)).heap.size = w2.heap.size + 1 := by simp
  have x4 : W.heap.size ≤ w2.heap.size := Nat.le_trans B1.out.size B2.out.size
  generalize w2.alloc (.cells (vals ktab) 228) = U at x0 x1 x2 x3 ⊢
  generalize w2.heap.size = kb at x0 x3 x4 ⊢
  have X0 := Bx.mk x0; have X1 := Bx.mk x1; have X2 := Bx.mk x2; have X3 := Bx.mk x3
  clear x0 x1 x2 x3 O1 B1 B2 HSI HSO w2 w1
  go_wp2_with fail
  refine (rstart_any U).mono ?_
  rintro e w2 ⟨rfl, hb2⟩
  have hsi : (Tryz.prog.info? 230).map (·.size) = some (vals R0.list).size := by rw [size8, vals_size]; rfl
  have hso : (vals zeros8).size = (vals R0.list).size := by rw [vals_size]; rfl
  have HSI := Bx.mk hsi; have HSO := Bx.mk hso; have B2 := Bx.mk hb2; clear hsi hso hb2
  go_upto_region 4 with (refine wpList_store_row rfl 230 (.tmp 5) (.tmp 12) rfl w2.heap.size (vals R0.list) rfl rfl _ (vals zeros8) (heap_alloc_new _ _) HSI.out HSO.out (vals_one _) ?_; rw [setRow_alloc_new _ _ _ _ _ rfl])
  have y0 := (Below.heap_alloc w2 (.cells (vals R0.list) 230) kb (by have := B2.out.size; rw [X3.out] at this; omega)).trans ((B2.out.block _ (by rw [X3.out]; omega)).trans X0.out)
  have y1 : Below W.heap.size W (w2.alloc (.cells (vals R0.list) 230)) := (X1.out.trans (B2.out.mono X1.out.size)).alloc (Nat.le_trans X1.out.size B2.out.size) _
  have y2 : OwnF W.heap.size (w2.alloc (.cells (vals R0.list) 230)) v3 (pad (sb s)) := (X2.out.kept (Keep.of_below B2.out (fun _ => False)) (fun _ _ h => h)).kept (Keep.alloc (fun _ => False) _ _) (fun _ _ h => h)
  have y3 := heap_alloc_new w2 (.cells (vals R0.list) 230)
  have y4 : kb < w2.heap.size := by have := B2.out.size; rw [X3.out] at this; omega
  have y5 : ∀ k, v3.ownBlock = some k → k < w2.heap.size := fun k hk => Nat.lt_of_lt_of_le (X2.out.fresh k hk).2 B2.out.size
  have y6 : (w2.alloc (.cells (vals R0.list) 230)).heap.size = w2.heap.size + 1 := by simp
  generalize w2.alloc (.cells (vals R0.list) 230) = V at y0 y1 y2 y3 y6 ⊢
  generalize w2.heap.size = xb at y3 y4 y5 y6 ⊢
  have Y0 := Bx.mk y0; have Y1 := Bx.mk y1; have Y2 := Bx.mk y2; have Y3 := Bx.mk y3; have Y5 := Bx.mk y5; have Y6 := Bx.mk y6
  clear y0 y1 y2 y3 y5 y6 X0 X1 X2 X3 B2 HSI HSO w2 U
  obtain ⟨a3, c3, hv3, q1, q2, q3⟩ := Y2.out.shape
  subst hv3
  have hpw := pad_whole (sb s); have hpp := pad_pos (sb s); have hpl := pad_le (sb s)
  rw [sb_length] at hpl
  have HPW := Bx.mk hpw; clear hpw
  unfold maxLen at q2
  go_upto_block 0 with (fail)
  go_cut [] (fun wc => Keep (fun k => k = xb) V wc ∧ wc.heap[xb]? = some (.cells (vals (fold R0 (pad (sb s)) ((pad (sb s)).length / 64)).list) 230 (0, 0)))
  case first =>
    go_wp2_with fail
    go_loopw [6] (fun i wr => ∃ t : Nat, 64 * t ≤ (pad (sb s)).length ∧ i = .int .i64 (64 * (t : Int)) ∧ Keep (fun k => k = xb) V wr ∧ wr.heap[xb]? = some (.cells (vals (fold R0 (pad (sb s)) t).list) 230 (0, 0))) (fun i _ => (pad (sb s)).length - (intOf i).toNat)
    case atStart => exact ⟨0, by omega, rfl, Keep.refl _ _, Y3.out⟩
    case round =>
      obtain ⟨t, ht, rfl, hk, hx⟩ := hrel
      have HK := Bx.mk hk; have HX := Bx.mk hx; clear hk hx
      by_cases hlt : 64 * t < (pad (sb s)).length
      · have hlt2 : 64 * (t + 1) ≤ (pad (sb s)).length := by have := HPW.out; omega
        have hsrc := (Y2.out.kept HK.out (fun j hj e => by have := Y5.out j hj; omega)).src
        obtain ⟨a', cap', he, h1, h2, h3, h4⟩ := hsrc
        cases he
        obtain ⟨B, off, rfl, hB, hc⟩ := h4 (by intro e; simp [e] at hpp)
        have hcb : ∀ i, i < 64 → wr.cell? ⟨B, off + 64 * t + i, none⟩ = some (.int .u8 ((ints (((pad (sb s)).drop (64 * t)).take 64)).getD i 0)) := fun i hi => by
          rw [Nat.add_assoc, hc (64 * t + i) (by omega), ints_getD _ _ (by simp; omega)]; simp [bcell]
        have hcall := fun n => rblock_any (wr.drewN n) B (off + 64 * t) (c3 - 64 * t) _ (fold R0 (pad (sb s)) t) hcb hB (by omega)
        have hkt : ∀ n, (wr.drewN n).heap[kb]? = some (.cells (vals ktab) 228 (0, 0)) := fun n => (HK.out.block kb (by rw [Y6.out]; omega) (by omega)).trans Y0.out
        have HC := Bx.mk hcall; have HKT := Bx.mk hkt
        have hne : ¬ c3 = 64 * t := by omega
        have HNE := Bx.mk hne
        clear hcall hkt hcb hc h3 h4 hB
        go_wp2_with fail
        refine wp_region_quiet_tail (C := fun w' => ∃ n, w' = wr.drewN n) 7 (by kernel_rfl) (by kernel_rfl) ⟨1, rfl⟩ ?_
        simp only [List.take_succ_cons, List.take_zero, List.drop_succ_cons, List.drop_zero]
        refine wpQuiet_load_row rfl 230 (.tmp 5) rfl xb rfl _ _ _ _ (fun w' hw' => by obtain ⟨n, rfl⟩ := hw'; exact HX.out) under8 rfl (by rw [size8, vals_size]; rfl) ?_
        simp only [Act.put, List.setIfInBounds_toArray, List.set_cons_succ, List.set_cons_zero]
        go_big_quiet_step (fail)
        go_big_quiet_step (fail)
        go_big_quiet_step (fail)
        go_big_quiet_step (fail)
        go_big_quiet_step (fail)
        refine wpQuiet_load_row rfl 228 (.tmp 4) rfl kb rfl _ _ _ _ (fun w' hw' => by obtain ⟨n, rfl⟩ := hw'; exact HKT.out n) under64 rfl (by rw [size64, vals_size]; rfl) ?_
        simp only [Act.put, List.setIfInBounds_toArray, List.set_cons_succ, List.set_cons_zero]
        refine wpQuiet_nil ?_
        intro _ hw'
        obtain ⟨nr, hw''⟩ := hw'
        subst hw''
        go_wp2_with fail
        refine (HC.out nr).mono ?_
        rintro e w4 ⟨rfl, hb4⟩
        have hx4 := (hb4.block xb (Array.getElem?_eq_some_iff.1 HX.out).1).trans HX.out
        have hk4 : Keep (fun k => k = xb) V w4 := HK.out.trans ((Keep.drewN (fun _ => False) wr nr).trans (Keep.of_below hb4 _) (fun _ _ h => h)) (fun _ _ h => h.elim)
        have hsi : (Tryz.prog.info? 230).map (·.size) = some (vals (fold R0 (pad (sb s)) (t + 1)).list).size := by rw [size8, vals_size]; rfl
        have hso : (vals (fold R0 (pad (sb s)) t).list).size = (vals (fold R0 (pad (sb s)) (t + 1)).list).size := by rw [vals_size, vals_size]; rfl
        have HX4 := Bx.mk hx4; have HK4 := Bx.mk hk4; have HSI := Bx.mk hsi; have HSO := Bx.mk hso; clear hx4 hk4 hsi hso hb4
        go_wp2_with (refine wpList_store_row rfl 230 (.tmp 5) (.tmp 26) rfl xb (vals (fold R0 (pad (sb s)) (t + 1)).list) rfl rfl _ _ HX4.out HSI.out HSO.out (vals_one _) ?_)
        go_roundw
        case rel => exact ⟨t + 1, hlt2, by go_num, HK4.out.trans (Keep.setRow _ _ _) (fun _ _ h => h), setRow_heap _ _ _ _ _ _ HX4.out⟩
        case measure => simp [intOf]; omega
      · have e1 : (pad (sb s)).length / 64 = t := by omega
        rw [← e1] at HX
        have E1 := Bx.mk e1; clear e1
        go_wp2_with fail
        go_meet
        case rel => exact ⟨HK.out, HX.out⟩
  case rest =>
    obtain ⟨hk, hx⟩ := hcut
    have HK := Bx.mk hk; have HX := Bx.mk hx; clear hk hx
    generalize hQ : fold R0 (pad (sb s)) ((pad (sb s)).length / 64) = Q at HX
    have HQ := Bx.mk hQ; clear hQ
    have hxs : xb < wc.heap.size := (Array.getElem?_eq_some_iff.1 HX.out).1
    go_upto_block 2 with (fail)
    go_cut [] (fun wd => wd = wc.alloc (.cells (ocells (outOf Q.list)) 81))
    case first =>
      go_wp2_with fail
      go_loopw [8] (fun i wr => ∃ t : Nat, t ≤ 32 ∧ i = .int .i64 t ∧ wr = wc.alloc (.cells (ocells (outI Q.list t)) 81)) (fun i _ => 32 - (intOf i).toNat)
      case atStart => exact ⟨0, by omega, rfl, rfl⟩
      case round =>
        obtain ⟨t, ht, rfl, rfl⟩ := hrel
        by_cases hlt : t < 32
        · have c0 : (wc.alloc (.cells (ocells (outI Q.list t)) 81)).cell? ⟨xb, t / 4, none⟩ = some (.int .u32 (Q.list.getD (t / 4) 0)) := by
            rw [World.cell?_alloc_past _ _ _ hxs]; exact cell_of_vals HX.out (t / 4) (by simp [R8.list]; omega)
          have c1 : (wc.alloc (.cells (ocells (outI Q.list t)) 81)).cell? ⟨wc.heap.size, t, none⟩ = some (bcell ((outI Q.list t)[t]'(by rw [outI_length _ _ ht]; exact hlt))) := by
            rw [World.cell?_alloc_at _ _ _ _ rfl, ocells_get _ _ (by rw [outI_length _ _ ht]; exact hlt)]
          have f1 : (wc.alloc (.cells (ocells (outI Q.list t)) 81)).frozen? ⟨wc.heap.size, t, none⟩ = false := World.frozen?_alloc_at _ _ _ _ rfl
          generalize hW : wc.alloc (.cells (ocells (outI Q.list t)) 81) = Z at c0 c1 f1 ⊢
          generalize hx : Q.list.getD (t / 4) 0 = x at c0
          generalize (outI Q.list t)[t]'(by rw [outI_length _ _ ht]; exact hlt) = y at c1
          have HW := Bx.mk hW; have HXX := Bx.mk hx; clear hW hx
          go_wp2_with fail
          go_roundw
          case rel =>
            refine ⟨t + 1, hlt, by go_num, ?_⟩
            rw [← HW.out, ← bcell_byteOf, World.setCell_alloc_at _ _ _ _ _ rfl, ocells_set, outI_step _ _ _ hlt HXX.out]
          case measure => simp [intOf]; omega
        · obtain rfl : t = 32 := by omega
          go_wp2_with fail
          go_meet
          case rel => rw [outI_whole _ rfl]
    case rest =>
      subst hcut
      have hwc : w.heap.size < wc.heap.size := by have := (Y1.out.size); rw [S0.out] at this; have := HK.out.size; omega
      have hVx : W.heap.size ≤ xb := by omega
      have q0 : (wc.alloc (.cells (ocells (outOf Q.list)) 81)).heap[wc.heap.size]? = some (.cells (ocells (outOf Q.list)) 81 (0, 0)) := heap_alloc_new _ _
      have q1 : (wc.alloc (.cells (ocells (outOf Q.list)) 81)).heap[w.heap.size]? = some (.cells zeros32 81 (0, 0)) := by
        rw [Below.heap_alloc _ _ _ hwc]
        refine (HK.out.block _ (by have := Y1.out.size; rw [S0.out] at this; omega) (by rw [S0.out] at hVx; omega)).trans ?_
        exact (Y1.out.block _ (by rw [S0.out]; omega)).trans R0'.out
      have q2 : Below w.heap.size w (wc.alloc (.cells (ocells (outOf Q.list)) 81)) := (K0.out.trans ((Y1.out.mono (by rw [S0.out]; omega)).trans (HK.out.below (by have := Y1.out.size; rw [S0.out] at this; omega) (fun k hk => by rw [S0.out] at hVx; omega)))).alloc (by omega) _
      generalize wc.alloc (.cells (ocells (outOf Q.list)) 81) = Y at q0 q1 q2 ⊢
      have Q0 := Bx.mk q0; have Q1 := Bx.mk q1; have Q2 := Bx.mk q2
      clear q0 q1 q2 q3
      have hsz : (Tryz.prog.info? 81).map (·.size) = some (ocells (outOf Q.list)).size := by rw [sizeH, ocells_size, outOf_length]; rfl
      have hso : zeros32.size = (ocells (outOf Q.list)).size := by unfold zeros32; rw [ocells_size, ocells_size, outOf_length]; rfl
      have HSZ := Bx.mk hsz; have HSO := Bx.mk hso; clear hsz hso
      go_upto_region 13 with (fail)
      apply wp_region_lit
      refine wpList_load_row rfl 81 (.tmp 7) rfl wc.heap.size rfl _ _ _ _ Q0.out underH rfl HSZ.out ?_
      refine wpList_store_row rfl 81 (.tmp 2) (.tmp 43) rfl w.heap.size (ocells (outOf Q.list)) rfl rfl _ _ Q1.out HSZ.out HSO.out (ocells_one _) ?_
      refine wpList_nil ?_
      go_wp2_with fail
      refine bodyPost_ret (results_cell_row rfl _ _ w.heap.size _ (ocells (outOf Q.list)) _ _ rfl (setRow_heap _ _ _ _ _ _ Q1.out) underH rfl HSZ.out) rfl ⟨?_, below_setRow Q2.out (Nat.le_refl _) _⟩
      have hs : sha (sb s) = outOf Q.list := by rw [← HQ.out]; rfl
      rw [hs]; rfl
end Go.Proofs.YtgbafjmklefoiaaGreatDoor
end
section
namespace Go.Proofs.YtgbafjmklefoiaaGreatDoor
set_option maxRecDepth 100000
open Go.RowKit
/-- a value that reads as texts -/
def Strs (w : World) (v : Value) (ss : List ByteArray) : Prop :=
  ∃ (a : Option Addr) (cap : Nat), v = .slice a ss.length cap ∧ ss.length ≤ cap ∧ cap ≤ maxLen ∧
    (ss ≠ [] → ∃ B off, a = some ⟨B, off, none⟩ ∧ B < w.heap.size ∧ ∀ i, (h : i < ss.length) → w.cell? ⟨B, off + i, none⟩ = some (.string ss[i]))
def cat (ss : List ByteArray) : List UInt8 := ss.flatMap sb
theorem cat_take_succ (ss : List ByteArray) (t : Nat) (h : t < ss.length) : cat (ss.take (t + 1)) = cat (ss.take t) ++ sb ss[t] := by
  unfold cat
  rw [List.take_succ_eq_append_getElem h, List.flatMap_append, List.flatMap_singleton]
theorem cat_take_le (ss : List ByteArray) (t : Nat) : (cat (ss.take t)).length ≤ (cat ss).length := by
  conv => rhs; rw [← List.take_append_drop t ss]
  unfold cat
  rw [List.flatMap_append, List.length_append]
  omega
/-- '[]byte(s)' as something that reads as bytes -/
theorem bytes_src (w : World) (s : ByteArray) (hs : s.size < 1152921504606846976) :
    OwnF w.heap.size ((w.alloc (.cells (bytesRow s (grownCap w s.size 0 5)) 5 ((bytesRow s (grownCap w s.size 0 5)).size, (bytesRow s (grownCap w s.size 0 5)).size + 1))).drew) (.slice (some ⟨w.heap.size, 0, none⟩) s.size (grownCap w s.size 0 5)) (sb s) :=
  bytesRow_own w s (grownCap w s.size 0 5) (grownCap_ge _ _ _ _) (grownCap_le_maxLen _ _ _ _ (by unfold maxLen; omega)) _ (by
    have hds : s.data.size = s.size := rfl
    unfold bytesRow
    rw [Array.size_append, Array.size_map, Array.size_replicate]
    have := grownCap_ge w s.size 0 5
    omega)
set_option maxHeartbeats 1600000 in
set_option maxRecDepth 100000 in
theorem sum_any (w : World) (v : Value) (ss : List ByteArray) (hv' : Strs w v ss) (hT : Tab w) (hgs : 18 < w.heap.size) (hm : (cat ss).length < 576460752303423488) :
    Calls Tryz.prog 125 #[v] w fun e w' => e = .returned (hv (sha (cat ss))) ∧ Below w.heap.size w w' := by
  obtain ⟨a0, c0, rfl, hc1, hc2, hcs⟩ := hv'
  have r0 : (w.alloc (.cells zeros32 81)).heap[w.heap.size]? = some (.cells zeros32 81 (0, 0)) := heap_alloc_new _ _
  have s0 : (w.alloc (.cells zeros32 81)).heap.size = w.heap.size + 1 := by simp
  have k0 : Below w.heap.size w (w.alloc (.cells zeros32 81)) := (Below.refl _ _).alloc (Nat.le_refl _) _
  have t0 := hT.kept (Keep.of_below k0 (fun _ => False)) hgs (fun h => h)
  have R0' := Bx.mk r0; have S0 := Bx.mk s0; have K0 := Bx.mk k0; have T0 := Bx.mk t0; have CS := Bx.mk hcs
  unfold maxLen at hc2
  clear r0 s0 k0 hT t0 hcs
  go_enter Tryz.func125, Tryz.ntmps125
  go_upto_region 1 with (fail)
  change Code.wp _ _ _ _ (w.alloc (.cells zeros32 81))
  generalize w.alloc (.cells zeros32 81) = W at R0' S0 K0 T0 ⊢
  go_wp2_with fail
  refine (new_any W).mono ?_
  rintro e w1 ⟨v1, p, H, rv, rfl, hN⟩
  have hv1 := hN.val
  subst hv1
  have NN := Bx.mk hN; clear hN
  go_wp2_with fail
  go_loopw [9] (fun i wr => ∃ t rv1, t ≤ ss.length ∧ i = .int .i64 (t : Int) ∧ Dig W.heap.size wr p H rv1 (cat (ss.take t)) ∧ Below W.heap.size W wr) (fun i _ => ss.length - (intOf i).toNat)
  case atStart => exact ⟨0, rv, Nat.zero_le _, rfl, NN.out.dig, NN.out.below⟩
  case round =>
    obtain ⟨t, rv1, ht, rfl, hd, hb⟩ := hrel
    have HD := Bx.mk hd; have HB := Bx.mk hb; clear hd hb
    have hws : w.heap.size < wr.heap.size := by have := HB.out.size; rw [S0.out] at this; omega
    by_cases hlt : t < ss.length
    · obtain ⟨B, off, rfl, hB, hcc⟩ := CS.out (by rintro rfl; simp at hlt)
      have hcell : wr.cell? ⟨B, off + t, none⟩ = some (.string ss[t]) := by
        rw [HB.out.cell (p := ⟨B, off + t, none⟩) (by rw [S0.out]; exact Nat.lt_succ_of_lt hB), K0.out.cell (p := ⟨B, off + t, none⟩) hB]
        exact hcc t hlt
      have hsize : (cat (ss.take t)).length + (sb ss[t]).length < 1152921504606846976 := by
        have := cat_take_le ss (t + 1)
        rw [cat_take_succ ss t hlt, List.length_append] at this
        omega
      generalize hsx : ss[t] = sx at hcell hsize
      have HSX := Bx.mk hsx; clear hsx
      have hsz := hsize
      rw [sb_length] at hsz
      have hso := bytes_src wr sx (by omega)
      have kc := fun (w : World) => run_bytes_of_string (P := Tryz.prog) w 9 116 5 sx (by kernel_rfl) underB (by kernel_rfl)
      have hkb : Keep (fun _ => False) wr ((wr.alloc (.cells (bytesRow sx (grownCap wr sx.size 0 5)) 5 ((bytesRow sx (grownCap wr sx.size 0 5)).size, (bytesRow sx (grownCap wr sx.size 0 5)).size + 1))).drew) :=
        (Keep.alloc (fun _ => False) wr _).trans (Keep.drewN (fun _ => False) _ 1) (fun _ _ h => h)
      have HSO := Bx.mk hso; have HKB := Bx.mk hkb; have HSIZE := Bx.mk hsize
      clear hso hkb hcc hsize hsz
      go_wp2_with fail
      clear kc
      generalize ((wr.alloc (.cells (bytesRow sx (grownCap wr sx.size 0 5)) 5 ((bytesRow sx (grownCap wr sx.size 0 5)).size, (bytesRow sx (grownCap wr sx.size 0 5)).size + 1))).drew) = Z at HSO HKB ⊢
      have d1 := HD.out.kept HKB.out (fun h => h) (fun h => h) (fun _ _ h => h)
      have tz : Tab Z := T0.out.kept ((Keep.of_below HB.out (fun _ => False)).trans HKB.out (fun _ _ h => h)) (by rw [S0.out]; omega) (fun h => h)
      have hne : ∀ k, (Value.slice (some ⟨wr.heap.size, 0, none⟩) sx.size (grownCap wr sx.size 0 5)).ownBlock = some k → k ≠ p ∧ k ≠ H ∧ rv1.ownBlock ≠ some k := fun k hk => by
        have h1 : wr.heap.size = k := by simpa [Value.ownBlock] using hk
        have h2 := (Array.getElem?_eq_some_iff.1 HD.out.hp).1
        have h3 := (Array.getElem?_eq_some_iff.1 HD.out.hH).1
        refine ⟨by omega, by omega, fun h => ?_⟩
        have := (HD.out.hr.lt k h).2
        omega
      have hcw := write_any W.heap.size Z p H rv1 _ _ (sb sx) d1 tz (by rw [S0.out]; omega) HSO.out.src hne HSIZE.out (Nat.le_trans HB.out.size HKB.out.size)
      refine hcw.mono ?_
      rintro e w3 ⟨rfl, rv3, hd3, hk3, ho3⟩
      have hb3 : Below W.heap.size W w3 := HB.out.trans (((HKB.out.mono (S' := DigS p H rv1) (fun _ _ h => h.elim)).trans hk3 (fun k _ h => h)).below HB.out.size (fun k hk => HD.out.ge k hk))
      have D3 := Bx.mk hd3; have B3 := Bx.mk hb3
      clear hd3 hk3 ho3 hcw d1 tz hne hb3
      go_wp2_with fail
      go_roundw
      case rel => exact ⟨t + 1, rv3, hlt, by go_num, by rw [cat_take_succ ss t hlt, HSX.out]; exact D3.out, B3.out⟩
      case measure => simp [intOf]; omega
    · obtain rfl : t = ss.length := by omega
      have hd := HD.out
      rw [List.take_length] at hd
      have tr : Tab wr := T0.out.kept (Keep.of_below HB.out (fun _ => False)) (by rw [S0.out]; omega) (fun h => h)
      have hcd := dsum_any W.heap.size wr p H rv1 (cat ss) hd tr (by have := HB.out.size; rw [S0.out] at this; omega) hm
      have HCD := Bx.mk hcd
      clear hd tr hcd
      go_wp2_with fail
      refine HCD.out.mono ?_
      rintro e w4 ⟨rfl, hb4⟩
      have q1 := (hb4.block w.heap.size hws).trans ((HB.out.block _ (by rw [S0.out]; omega)).trans R0'.out)
      have q2 : Below w.heap.size w w4 := K0.out.trans ((HB.out.mono (by rw [S0.out]; omega)).trans (hb4.mono (by omega)))
      have hsz : (Tryz.prog.info? 81).map (·.size) = some (ocells (sha (cat ss))).size := by rw [sizeH, ocells_size, sha_length]
      have hso : zeros32.size = (ocells (sha (cat ss))).size := by unfold zeros32; rw [ocells_size, ocells_size, sha_length]; rfl
      have Q1 := Bx.mk q1; have Q2 := Bx.mk q2; have HSZ := Bx.mk hsz; have HSO := Bx.mk hso
      clear hb4 q1 q2 hsz hso
      go_wp2_with (refine wpList_store_row rfl 81 (.tmp 2) (.tmp 19) rfl w.heap.size (ocells (sha (cat ss))) rfl rfl _ _ Q1.out HSZ.out HSO.out (ocells_one _) ?_)
      refine bodyPost_ret (results_cell_row rfl _ _ w.heap.size _ (ocells (sha (cat ss))) _ _ rfl (setRow_heap _ _ _ _ _ _ Q1.out) underH rfl HSZ.out) rfl ⟨rfl, below_setRow Q2.out (Nat.le_refl _) _⟩
end Go.Proofs.YtgbafjmklefoiaaGreatDoor
end
