/- Bytes, padding, the fold over blocks; what a digest is in memory; how memory is kept. -/
import Derived.Test.YtdepmjgibenejaaDoorRefB
import Derived.Deep.RegionLaw
import Derived.Laws.AppendOwnNone
import Derived.Laws.OwnMore
namespace Go.Proofs.YtdepmjgibenejaaDoor
set_option maxRecDepth 100000
open Go.RowKit
def bcell (b : UInt8) : Value := .int .u8 (b.toNat : Int)
def bcells (l : List UInt8) : List Value := l.map bcell
def ints (l : List UInt8) : List Int := l.map fun b => (b.toNat : Int)
/-- the words behind the first n blocks of l -/
def fold (s : R8) (l : List UInt8) : Nat → R8
  | 0 => s
  | n + 1 => blk (fold s l n) (ints ((l.drop (64 * n)).take 64))
theorem fold_append (s : R8) (l l' : List UInt8) (n : Nat) (h : 64 * n ≤ l.length) : fold s (l ++ l') n = fold s l n := by
  induction n with
  | zero => rfl
  | succ n ih =>
    rw [fold, fold, ih (by omega)]
    congr 2
    rw [List.drop_append_of_le_length (by omega), List.take_append_of_le_length (by simp; omega)]
theorem ints_getD (l : List UInt8) (i : Nat) (h : i < l.length) : (ints l).getD i 0 = (l[i].toNat : Int) := by simp [ints, h]
theorem bcells_length (l : List UInt8) : (bcells l).length = l.length := by simp [bcells]
theorem bcells_append (l l' : List UInt8) : bcells (l ++ l') = bcells l ++ bcells l' := by simp [bcells]
theorem bcells_get (l : List UInt8) (i : Nat) (h : i < l.length) : (bcells l)[i]? = some (bcell l[i]) := by simp [bcells, h]
theorem bcells_one (l : List UInt8) : ∀ u ∈ bcells l, u.oneCell' = true := by intro u hu; simp [bcells] at hu; obtain ⟨b, _, rfl⟩ := hu; rfl
/-- memory but for the blocks of S (and new ones) is as it was -/
structure Keep (S : Nat → Prop) (w w' : World) : Prop where
  os : w'.os = w.os
  tape : w'.tape = w.tape
  output : w'.output = w.output
  size : w.heap.size ≤ w'.heap.size
  block : ∀ k, k < w.heap.size → ¬ S k → w'.heap[k]? = w.heap[k]?
theorem Keep.refl (S : Nat → Prop) (w : World) : Keep S w w := ⟨rfl, rfl, rfl, Nat.le_refl _, fun _ _ _ => rfl⟩
theorem Keep.trans {S S' : Nat → Prop} {a b c : World} (h : Keep S a b) (h' : Keep S' b c) (hs : ∀ k, k < a.heap.size → S' k → S k) : Keep S a c :=
  ⟨h'.os.trans h.os, h'.tape.trans h.tape, h'.output.trans h.output, Nat.le_trans h.size h'.size,
   fun k hk hn => (h'.block k (Nat.lt_of_lt_of_le hk h.size) (fun hs' => hn (hs k hk hs'))).trans (h.block k hk hn)⟩
theorem Keep.mono {S S' : Nat → Prop} {a b : World} (h : Keep S a b) (hs : ∀ k, k < a.heap.size → S k → S' k) : Keep S' a b :=
  ⟨h.os, h.tape, h.output, h.size, fun k hk hn => h.block k hk (fun h' => hn (hs k hk h'))⟩
theorem Keep.below {S : Nat → Prop} {a b : World} {B : Nat} (h : Keep S a b) (hB : B ≤ a.heap.size) (hs : ∀ k, S k → B ≤ k) : Below B a b :=
  ⟨h.os, h.tape, h.output, h.size, fun k hk => h.block k (by omega) (fun h' => by have := hs k h'; omega)⟩
theorem Keep.of_below {a b : World} (h : Below a.heap.size a b) (S : Nat → Prop) : Keep S a b := ⟨h.os, h.tape, h.output, h.size, fun k hk _ => h.block k hk⟩
theorem Keep.of_grown {a b : World} {r : Option Nat} (h : a.grownBy b r) : Keep (fun k => r = some k) a b := ⟨h.os, h.tape, h.output, h.size, fun k hk hn => h.block k hk (fun e => hn e.symm)⟩
theorem Keep.drewN (S : Nat → Prop) (w : World) (n : Nat) : Keep S w (w.drewN n) := ⟨rfl, rfl, rfl, Nat.le_refl _, fun _ _ _ => rfl⟩
theorem Keep.alloc (S : Nat → Prop) (w : World) (o : Obj) : Keep S w (w.alloc o) := ⟨rfl, rfl, rfl, by simp, fun k hk _ => Below.heap_alloc _ _ _ hk⟩
theorem Keep.setCell (w : World) (a : Addr) (v : Value) : Keep (fun k => k = a.block) w (w.setCell a v) :=
  ⟨rfl, rfl, rfl, by simp [World.setCell], fun k _ hn => Below.heap_setCell _ _ _ _ (fun e => hn e)⟩
theorem Keep.setRow (w : World) (g : Nat) (cs : Array Value) : Keep (fun k => k = g) w (w.setRow g cs) :=
  ⟨rfl, rfl, rfl, by simp, fun k _ hn => setRow_other _ _ _ _ (fun e => hn e)⟩
/-- a value that reads as bytes -/
def Src (w : World) (v : Value) (l : List UInt8) : Prop :=
  ∃ (a : Option Addr) (cap : Nat), v = .slice a l.length cap ∧ l.length ≤ cap ∧ cap ≤ maxLen ∧ (a = none → cap = 0) ∧
    (l ≠ [] → ∃ B off, a = some ⟨B, off, none⟩ ∧ B < w.heap.size ∧ ∀ i, (h : i < l.length) → w.cell? ⟨B, off + i, none⟩ = some (bcell l[i]))
/-- what a digest's blocks are -/
def DigS (p H : Nat) (rv : Value) : Nat → Prop := fun k => k = p ∨ k = H ∨ rv.ownBlock = some k
theorem Src.kept {w w' : World} {v : Value} {l : List UInt8} {S : Nat → Prop} (h : Src w v l) (k : Keep S w w') (hs : ∀ j, v.ownBlock = some j → ¬ S j) : Src w' v l := by
  obtain ⟨a, cap, rfl, h1, h2, h4, h3⟩ := h
  refine ⟨a, cap, rfl, h1, h2, h4, fun hl => ?_⟩
  obtain ⟨B, off, rfl, hB, hc⟩ := h3 hl
  refine ⟨B, off, rfl, Nat.lt_of_lt_of_le hB k.size, fun i hi => ?_⟩
  exact (World.cell?_of_block (w := w) (a := ⟨B, off + i, none⟩) (k.block B hB (hs B rfl))).trans (hc i hi)
theorem ownsRow_mono {w : World} {base base' : Nat} {e : TypeId} {size : Nat} {v : Value} {n : Nat} {xs : List Value} (h : w.ownsRow base e size v n xs) (hb : base' ≤ base) : w.ownsRow base' e size v n xs := by
  refine ⟨h.1, ?_⟩
  rcases h.2 with hn | ⟨g, cap, cur, rfl, hg, rest⟩
  · exact .inl hn
  · exact .inr ⟨g, cap, cur, rfl, Nat.le_trans hb hg, rest⟩
theorem ownsRow_fresh {w : World} {base : Nat} {e : TypeId} {size : Nat} {v : Value} {n : Nat} {xs : List Value} (h : w.ownsRow base e size v n xs) (k : Nat) (hk : v.ownBlock = some k) : base ≤ k := by
  rcases h.2 with ⟨rfl, _⟩ | ⟨g, cap, cur, rfl, hg, rest⟩
  · cases hk
  · obtain rfl : g = k := by simpa [Value.ownBlock] using hk
    exact hg
theorem grownBy_undrew {w w' : World} {r : Option Nat} (h : w.drew.grownBy w' r) : w.grownBy w' r := ⟨h.os, h.tape, h.output, h.size, h.block⟩
theorem grownBy_any {w w' : World} {r : Option Nat} (h : w.grownBy w' none) : w.grownBy w' r := ⟨h.os, h.tape, h.output, h.size, fun k hk _ => h.block k hk (by simp)⟩
/-- 'append(v, x...)', v the call's own, x whatever: nil, empty, or cells that lie there; where the row is then -/
theorem run_append_src {P : Program} {w : World} (t ty : TypeId) (base : Nat) (e : TypeId) (i : TypeInfo) (z : Value) (size bytes : Nat) (ht : P.underlying t = some (.slice e)) (hi : P.info? e = some i) (hz : i.zero = some z)
    (hsize : i.size = size) (hby : i.bytes = bytes) (hzs : z.cells.size = size) (hsz : 0 < size)
    (v : Value) (n : Nat) (xs : List Value) (hown : w.ownsRow base e size v n xs)
    (xa : Option Addr) (m c : Nat) (news : List Value) (hnil : xa = none → c = 0 ∧ m = 0) (hl : news.length = m * size)
    (hnews : ∀ ad, xa = some ad → ∀ j u, news[j]? = some u → w.cell? (ad.add j) = some u) (h1 : ∀ u ∈ news, u.oneCell' = true)
    (h63 : n + m ≤ maxLen) (hbytes : (n + m) * bytes ≤ 140737488355328) (hbase : base ≤ w.heap.size) :
    ∃ v' w', (Builtin.append_ #[t, t] ty #[v, .slice xa m c]).run P w = .ok v' w' ∧ w'.ownsRow base e size v' (n + m) (xs ++ news) ∧ w.grownBy w' v.ownBlock ∧ (v'.ownBlock = v.ownBlock ∨ ∀ k, v'.ownBlock = some k → w.heap.size ≤ k) := by
  cases xa with
  | none =>
    obtain ⟨rfl, rfl⟩ := hnil rfl
    have hn : news = [] := List.length_eq_zero_iff.1 (by simpa using hl)
    subst hn
    exact ⟨v, w, run_append_owned_none (P := P) (w := w) base t ty e i size ht hi v n xs hown, by simpa using hown, World.grownBy.refl w _, .inl rfl⟩
  | some ad =>
    have hnews := hnews ad rfl
    rcases id hown.2 with ⟨rfl, rfl⟩ | ⟨g, cap, cur, rfl, hbg, hg, hnc, hcm, hcs, htake⟩
    · have hx : xs = [] := List.eq_nil_of_length_eq_zero (by simpa using hown.1)
      subst hx
      obtain ⟨v', w', a1, a2, a3, _⟩ := run_append_own (P := P) w w.heap.size t ty e i z size bytes ht hi hz hsize hby hzs hsz _ 0 [] (World.ownsRow_nil w _ e size) ad m c news hl hnews h1 h63 hbytes (Nat.le_refl _)
      exact ⟨v', w', a1, ownsRow_mono a2 hbase, a3, .inr (ownsRow_fresh a2)⟩
    · by_cases hroom : n + m ≤ cap
      · obtain ⟨w', a1, a2, a3⟩ := run_append_fits (P := P) w base t ty e i size ht hi hsize g n cap xs hown ad m c news hl hnews h1 hroom
        exact ⟨_, w', a1, a2, a3, .inl rfl⟩
      · obtain ⟨v', w', a1, a2, a3⟩ := run_append_arg_grows (P := P) w t ty e i z size bytes ht hi hz hsize hby hzs hsz ⟨g, 0, none⟩ n cap xs hown.1 (hown.cells (g := g) rfl) ad m c news hl hnews (by omega) h63 hbytes
        exact ⟨v', w', a1, ownsRow_mono a2 hbase, grownBy_any a3, .inr (ownsRow_fresh a2)⟩
theorem wp_append_src {P : Program} {o : Oper} {a : Act} {w : World} {K : Act → World → Prop} {Q : Exit → Act → World → Prop} (s x : Operand) (t : TypeId)
    (ho : o.op = .call { callee := .builtin .append, args := #[s, x], argTypes := #[t, t] })
    (base : Nat) (e : TypeId) (i : TypeInfo) (z : Value) (size bytes : Nat) (ht : P.underlying t = some (.slice e)) (hi : P.info? e = some i) (hz : i.zero = some z)
    (hsize : i.size = size) (hby : i.bytes = bytes) (hzs : z.cells.size = size) (hsz : 0 < size)
    (v : Value) (n : Nat) (xs : List Value) (hs : a.eval s = v) (hown : w.ownsRow base e size v n xs)
    (xa : Option Addr) (m c : Nat) (news : List Value) (hx : a.eval x = .slice xa m c) (hnil : xa = none → c = 0 ∧ m = 0) (hl : news.length = m * size)
    (hnews : ∀ ad, xa = some ad → ∀ j u, news[j]? = some u → w.cell? (ad.add j) = some u) (h1 : ∀ u ∈ news, u.oneCell' = true)
    (h63 : n + m ≤ maxLen) (hbytes : (n + m) * bytes ≤ 140737488355328) (hbase : base ≤ w.heap.size)
    (h : ∀ v' w', w'.ownsRow base e size v' (n + m) (xs ++ news) → w.grownBy w' v.ownBlock → (v'.ownBlock = v.ownBlock ∨ ∀ k, v'.ownBlock = some k → w.heap.size ≤ k) → K (a.put o.dst v') w') : Oper.wp P o a w K Q := by
  obtain ⟨v', w', hrun, a2, a3, a4⟩ := run_append_src (P := P) (w := w) t o.type base e i z size bytes ht hi hz hsize hby hzs hsz v n xs hown xa m c news hnil hl hnews h1 h63 hbytes hbase
  unfold Oper.wp
  simp [execOp, ho, resolve, invoke, builtin, hs, hx, hrun, Result.andThen]
  exact h v' w' a2 a3 a4
theorem step_append_src {P : Program} {ops : Array Oper} {o : Oper} {a : Act} {w : World} {K : Act → World → Prop} {Q : Exit → Act → World → Prop} {E : Prop} (hgd : o.guard = none) (s x : Operand) (t : TypeId)
    (ho : o.op = .call { callee := .builtin .append, args := #[s, x], argTypes := #[t, t] })
    (base : Nat) (e : TypeId) (i : TypeInfo) (z : Value) (size bytes : Nat) (ht : P.underlying t = some (.slice e)) (hi : P.info? e = some i) (hz : i.zero = some z)
    (hsize : i.size = size) (hby : i.bytes = bytes) (hzs : z.cells.size = size) (hsz : 0 < size)
    (v : Value) (n : Nat) (xs : List Value) (hs : a.eval s = v) (hown : w.ownsRow base e size v n xs)
    (xa : Option Addr) (m c : Nat) (news : List Value) (hx : a.eval x = .slice xa m c) (hnil : xa = none → c = 0 ∧ m = 0) (hl : news.length = m * size)
    (hnews : ∀ ad, xa = some ad → ∀ j u, news[j]? = some u → w.cell? (ad.add j) = some u) (h1 : ∀ u ∈ news, u.oneCell' = true)
    (h63 : n + m ≤ maxLen) (hbytes : (n + m) * bytes ≤ 140737488355328) (hbase : base ≤ w.heap.size)
    (h : ∀ v' w', w'.ownsRow base e size v' (n + m) (xs ++ news) → w.grownBy w' v.ownBlock → (v'.ownBlock = v.ownBlock ∨ ∀ k, v'.ownBlock = some k → w.heap.size ≤ k) → K (a.put o.dst v') w') :
    if Region.wanted o (yielded ops a.tmps) = true then Oper.wp P o a w K Q else E := by
  rw [if_pos (by simp [Region.wanted, hgd])]
  exact wp_append_src s x t ho base e i z size bytes ht hi hz hsize hby hzs hsz v n xs hs hown xa m c news hx hnil hl hnews h1 h63 hbytes hbase h
theorem wpList_append_src {P : Program} {ops : Array Oper} {rest : List Oper} {o : Oper} {a : Act} {w : World} {Q : Exit → Act → World → Prop} (hgd : o.guard = none) (s x : Operand) (t : TypeId)
    (ho : o.op = .call { callee := .builtin .append, args := #[s, x], argTypes := #[t, t] })
    (base : Nat) (e : TypeId) (i : TypeInfo) (z : Value) (size bytes : Nat) (ht : P.underlying t = some (.slice e)) (hi : P.info? e = some i) (hz : i.zero = some z)
    (hsize : i.size = size) (hby : i.bytes = bytes) (hzs : z.cells.size = size) (hsz : 0 < size)
    (v : Value) (n : Nat) (xs : List Value) (hs : a.eval s = v) (hown : w.ownsRow base e size v n xs)
    (xa : Option Addr) (m c : Nat) (news : List Value) (hx : a.eval x = .slice xa m c) (hnil : xa = none → c = 0 ∧ m = 0) (hl : news.length = m * size)
    (hnews : ∀ ad, xa = some ad → ∀ j u, news[j]? = some u → w.cell? (ad.add j) = some u) (h1 : ∀ u ∈ news, u.oneCell' = true)
    (h63 : n + m ≤ maxLen) (hbytes : (n + m) * bytes ≤ 140737488355328) (hbase : base ≤ w.heap.size)
    (h : ∀ v' w', w'.ownsRow base e size v' (n + m) (xs ++ news) → w.grownBy w' v.ownBlock → (v'.ownBlock = v.ownBlock ∨ ∀ k, v'.ownBlock = some k → w.heap.size ≤ k) → wpList P ops Q rest (a.put o.dst v') w') : wpList P ops Q (o :: rest) a w :=
  wpList_plain hgd fun _ hK => wp_append_src s x t ho base e i z size bytes ht hi hz hsize hby hzs hsz v n xs hs hown xa m c news hx hnil hl hnews h1 h63 hbytes hbase fun v' w' a1 a2 a3 => hK _ _ (h v' w' a1 a2 a3)
theorem Src.nil {w : World} {a : Option Addr} {n cap : Nat} {l : List UInt8} (h : Src w (.slice a n cap) l) : a = none → cap = 0 ∧ l = [] := by
  obtain ⟨a', cap', he, h1, h2, h4, h3⟩ := h
  cases he
  intro ha
  have := h4 ha
  exact ⟨this, List.length_eq_zero_iff.1 (by omega)⟩
/-- the cells of a piece of what reads as bytes -/
theorem Src.cells {w : World} {ad : Addr} {n cap : Nat} {l : List UInt8} (h : Src w (.slice (some ad) n cap) l) (k : Nat) : ∀ j u, (bcells (l.take k))[j]? = some u → w.cell? (ad.add j) = some u := by
  intro j u hj
  obtain ⟨a', cap', he, h1, h2, h4, h3⟩ := h
  cases he
  have hjl : j < (l.take k).length := by
    have := (List.getElem?_eq_some_iff.1 hj).1
    simpa [bcells] using this
  have hjl2 : j < l.length := by simp at hjl; omega
  obtain ⟨B, off, he2, hB, hc⟩ := h3 (by intro e; subst e; simp at hjl2)
  cases he2
  rw [bcells_get _ _ hjl] at hj
  have := hc j hjl2
  rw [← hj]
  by_cases h0 : j = 0
  · subst h0; simpa [Addr.add] using this
  · simpa [Addr.add, h0] using this
theorem Src.cells' {w : World} {a : Option Addr} {n cap : Nat} {l : List UInt8} (h : Src w (.slice a n cap) l) : ∀ ad, a = some ad → ∀ j u, (bcells l)[j]? = some u → w.cell? (ad.add j) = some u := by
  rintro ad rfl j u hj
  have := h.cells l.length j u
  rw [List.take_length] at this
  exact this hj
theorem Src.take {w : World} {a : Option Addr} {n cap : Nat} {l : List UInt8} (h : Src w (.slice a n cap) l) (k : Nat) (hk : k ≤ n) : Src w (.slice a k cap) (l.take k) := by
  obtain ⟨a', cap', he, h1, h2, h4, h3⟩ := h
  cases he
  have hl : (l.take k).length = k := by simp; omega
  refine ⟨a, cap, by rw [hl], by omega, h2, h4, fun hn => ?_⟩
  obtain ⟨B, off, rfl, hB, hc⟩ := h3 (by rintro rfl; simp at hn)
  refine ⟨B, off, rfl, hB, fun i hi => ?_⟩
  rw [hc i (by omega)]; simp
/-- 'b[k:]', as the walk spells it -/
theorem Src.drop {w : World} {a : Option Addr} {n cap : Nat} {l : List UInt8} (h : Src w (.slice a n cap) l) (k : Nat) (hk : k ≤ n) (hk0 : k ≠ 0) :
    Src w (.slice (if cap = k then a else a.map fun x => x.add k) (n - k) (cap - k)) (l.drop k) := by
  obtain ⟨a', cap', he, h1, h2, h4, h3⟩ := h
  cases he
  have hl : (l.drop k).length = l.length - k := by simp
  refine ⟨_, cap - k, by rw [hl], by omega, by omega, fun hn => ?_, fun hn => ?_⟩
  · split at hn
    · have := h4 hn; omega
    · cases a with
      | none => have := h4 rfl; omega
      | some _ => cases hn
  · have hlt : k < l.length := by
      rcases Nat.lt_or_ge k l.length with h | h
      · exact h
      · exact absurd (List.drop_eq_nil_of_le h) hn
    obtain ⟨B, off, rfl, hB, hc⟩ := h3 (by rintro rfl; simp at hlt)
    refine ⟨B, off + k, by rw [if_neg (by omega)]; simp [Addr.add, hk0], hB, fun i hi => ?_⟩
    have := hc (k + i) (by simp at hi; omega)
    rw [Nat.add_assoc]
    simpa using this
theorem Src.block_drop {a : Option Addr} {n cap k n' cap' : Nat} (j : Nat) (h : (Value.slice (if cap = k then a else a.map fun x => x.add k) n' cap').ownBlock = some j) :
    (Value.slice a n cap).ownBlock = some j := by
  cases a with
  | none => split at h <;> simp [Value.ownBlock] at h
  | some x => split at h <;> (simp only [Value.ownBlock, Option.map, Addr.add] at h ⊢; (try split at h) <;> exact h)
theorem own_shape {w : World} {base : Nat} {e : TypeId} {size : Nat} {v : Value} {n : Nat} {xs : List Value} (h : w.ownsRow base e size v n xs) : ∃ a c, v = .slice a n c ∧ n ≤ c ∧ c ≤ maxLen ∧ (a = none → c = 0 ∧ n = 0) := by
  rcases h.2 with ⟨rfl, rfl⟩ | ⟨g, cap, cur, rfl, hb, hh, h1, h2, _⟩
  · exact ⟨none, 0, rfl, by omega, by simp [maxLen], fun _ => ⟨rfl, rfl⟩⟩
  · exact ⟨_, _, rfl, h1, h2, fun e => by cases e⟩
theorem info8 : (Tryd.prog.info? 5).map (fun i => (i.zero, i.size, i.bytes)) = some (some (.int .u8 0), 1, 1) := by kernel_rfl
theorem cell_at {w : World} {g : Nat} {cs : Array Value} {T : TypeId} {fr : Nat × Nat} (h : w.heap[g]? = some (.cells cs T fr)) (j : Nat) (v : Value) (hv : cs[j]? = some v) : w.cell? ⟨g, j, none⟩ = some v := by
  rw [cell_of_row w g j cs T fr h, hv]
theorem updH_keep (w : World) (H : Nat) (h : List Int) (i : Nat) : Keep (fun k => k = H) w (updH w H h i) := by
  induction i with
  | zero => exact Keep.refl _ _
  | succ i ih => exact ih.trans (Keep.setCell _ _ _) (fun _ _ h => h)
theorem ownsRow_setCell_ne {w : World} {base : Nat} {e : TypeId} {size : Nat} {v : Value} {n : Nat} {xs : List Value} (h : w.ownsRow base e size v n xs) (a : Addr) (u : Value) (hn : ∀ k, v.ownBlock = some k → k ≠ a.block) :
    (w.setCell a u).ownsRow base e size v n xs := by
  refine ⟨h.1, ?_⟩
  rcases h.2 with h2 | ⟨g, cap, cur, rfl, hg, hh, r⟩
  · exact .inl h2
  · exact .inr ⟨g, cap, cur, rfl, hg, by rw [heap_setCell_other _ _ _ _ (hn g rfl)]; exact hh, r⟩
/-- a row of 64 bytes as the block's argument -/
theorem own64 {w : World} {base : Nat} {e : TypeId} {va : Option Addr} {vc : Nat} {rb : List UInt8} (h : w.ownsRow base e 1 (.slice va 64 vc) 64 (bcells rb)) :
    ∃ g, va = some ⟨g, 0, none⟩ ∧ 64 ≤ vc ∧ vc ≤ maxLen ∧ g < w.heap.size ∧ rb.length = 64 ∧ ∀ i, i < 64 → w.cell? ⟨g, 0 + i, none⟩ = some (.int .u8 ((ints rb).getD i 0)) := by
  have hl : rb.length = 64 := by have := h.1; rwa [bcells_length] at this
  rcases id h.2 with ⟨h0, _⟩ | ⟨g, cap, cur, h0, hb, hg, h1, h2, h3, h4⟩
  · cases h0
  · cases h0
    refine ⟨g, rfl, h1, h2, (Array.getElem?_eq_some_iff.1 hg).1, hl, fun i hi => ?_⟩
    have := h.cellAt i (by omega)
    rw [Nat.zero_add, this, bcells_get _ _ (by omega), ints_getD _ _ (by omega)]
    rfl
theorem own_zero {w : World} {base : Nat} {e : TypeId} {size g n cap : Nat} {xs : List Value} (h : w.ownsRow base e size (.slice (some ⟨g, 0, none⟩) n cap) n xs) :
    w.ownsRow base e size (.slice (some ⟨g, 0, none⟩) 0 cap) 0 [] := by
  rcases h.2 with ⟨h0, _⟩ | ⟨g', cap', cur, h0, hb, hg, h1, h2, h3, h4⟩
  · cases h0
  · cases h0
    exact ⟨by simp, .inr ⟨g, cap, cur, rfl, hb, hg, by omega, h2, h3, by simp⟩⟩
theorem own_keep {w w' : World} {base : Nat} {e : TypeId} {size : Nat} {v : Value} {n : Nat} {xs : List Value} {S : Nat → Prop} (h : w.ownsRow base e size v n xs) (k : Keep S w w') (hs : ∀ j, v.ownBlock = some j → ¬ S j) :
    w'.ownsRow base e size v n xs := by
  refine ⟨h.1, ?_⟩
  rcases h.2 with hn | ⟨g, cap, cur, rfl, hb, hg, rest⟩
  · exact .inl hn
  · exact .inr ⟨g, cap, cur, rfl, hb, (k.block _ (Array.getElem?_eq_some_iff.1 hg).1 (hs g rfl)).trans hg, rest⟩
theorem own_block {w : World} {base : Nat} {e : TypeId} {size g n cap : Nat} {xs : List Value} (h : w.ownsRow base e size (.slice (some ⟨g, 0, none⟩) n cap) n xs) :
    ∃ cur, w.heap[g]? = some (.cells cur e (0, 0)) := by
  rcases h.2 with ⟨h0, _⟩ | ⟨g', cap', cur, h0, hb, hg, h1⟩
  · cases h0
  · cases h0; exact ⟨cur, hg⟩
theorem fold_whole (m x : List UInt8) (h : m.length % 64 + x.length = 64) :
    fold R0 (m ++ x) ((m ++ x).length / 64) = blk (fold R0 m (m.length / 64)) (ints (m.drop (64 * (m.length / 64)) ++ x)) := by
  have hd : (m ++ x).length / 64 = m.length / 64 + 1 := by rw [List.length_append]; omega
  rw [hd, fold, fold_append _ _ _ _ (by omega), List.drop_append_of_le_length (by omega), List.take_of_length_le (by simp; omega)]
theorem own_src {w : World} {base : Nat} {e : TypeId} {size : Nat} {a : Option Addr} {n c : Nat} {xs : List Value} (h : w.ownsRow base e size (.slice a n c) n xs) :
    (a = none → c = 0 ∧ n = 0) ∧ ∀ ad, a = some ad → ∀ j u, xs[j]? = some u → w.cell? (ad.add j) = some u := by
  rcases id h.2 with ⟨h0, h1⟩ | ⟨g, cap, cur, h0, hb, hg, h1, h2, h3, h4⟩
  · injection h0 with q1 q2 q3
    subst q1
    subst q3
    exact ⟨fun _ => ⟨rfl, h1⟩, fun ad h => by cases h⟩
  · injection h0 with q1 q2 q3
    subst q1
    subst q3
    refine ⟨(fun h => by cases h), ?_⟩
    rintro ad had j u hj
    cases had
    exact h.cells (g := g) rfl j u hj
/-- the length that a slice value bears -/
def lenOf : Value → Nat | .slice _ n _ => n | _ => 0
end Go.Proofs.YtdepmjgibenejaaDoor
