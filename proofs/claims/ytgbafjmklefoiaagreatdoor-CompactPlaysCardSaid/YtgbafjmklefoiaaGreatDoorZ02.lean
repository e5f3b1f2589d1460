/- A region that draws its order: all operations but the last ones are quiet in a class of worlds, in whatever order they come; the last ones come in the order of the text. One walk in the order of the text serves every order. SHA-256 in plain numbers, as the program and the document's answer reckon it: words are integers from 0 to 2^32 - 1. sha.block: a block more; sha.turn. What each call does to the world. The document's answer, part one: turn, schedule, table, start. What each call does to the world. The document's answer, part two: the eight words behind a block. -/
import Derived.Deep.Quiet
import Derived.StillTail
import Derived.Laws.Rows
import Derived.Below
import Derived.WalkKit
import Derived.Test.YtgbafjmklefoiaaGreatDoorProg
import Derived.WalkSpells
import Derived.WalkLawsBesides
import Derived.Deep.QuietTactic
import Derived.BigQuiet
import Derived.BigRegion
import Derived.Lib.Hide
import Derived.Deep.DeepCutAuto
import Derived.Deep.CutBlock
import Derived.Great.BuildSlice
import Derived.Laws.CopyOwn
section
namespace Go.Proofs.YtgbafjmklefoiaaGreatDoor
/-- A fact kept from the walk, behind a name that nothing opens. -/
structure Bx (p : Prop) : Prop where
  out : p
/-- A world that is as W was below block B. -/
structure Blw (B : Nat) (W : World) where
  w : World
  h : RowKit.Below B W w
theorem Blw.ne (B : Nat) (W : World) : Nonempty (Blw B W) := ⟨⟨W, RowKit.Below.refl _ _⟩⟩
/-- the class of these worlds, as the walk of a region that draws wants it -/
def BlwC (B : Nat) (W : World) (w' : World) : Prop := ∃ u : Blw B W, w' = u.w
/-- A callee that makes memory and hands back a value that does not hang on the world. -/
theorem Calls.blw {P : Program} {f : FuncId} {args : Array Value} {v : Value} {B : Nat} {W : World} {u : Blw B W} (hB : B ≤ W.heap.size)
    (h : ∀ w, RowKit.Below B W w → Calls P f args w fun e w' => e = .returned v ∧ RowKit.Below w.heap.size w w') :
    Calls P f args u.w fun e w'' => e = .returned v ∧ ∃ u' : Blw B W, w'' = u'.w :=
  (h u.w u.h).mono fun _ w'' ⟨he, hb⟩ => ⟨he, ⟨w'', u.h.trans (hb.mono (Nat.le_trans hB u.h.size))⟩, rfl⟩
section
variable {P : Program} {ops : Array Oper} {md : Region.Mode} {C : World → Prop}

/-- The next f operations, in any order that the edges allow, are all among the first n, and quiet; then L. -/
def headAny (P : Program) (md : Region.Mode) (ops : Array Oper) (C : World → Prop) (n : Nat) (L : Array Bool → Act → Prop) : Nat → Array Bool → Act → Prop
  | 0, b, a => L b a
  | f + 1, b, a => Region.ready md ops b ≠ [] ∧ ∀ i ∈ Region.ready md ops b, i < n ∧ qOp P ops C i (headAny P md ops C n L f (b.setIfInBounds i true)) a

theorem wpAny_of_headAny {n g : Nat} {L : Array Bool → Act → Prop} {Q' : Exit → Act → World → Prop}
    (hL : ∀ b a w, C w → L b a → wpAny P md ops Q' g b a w) (f : Nat) : ∀ (b : Array Bool) (a : Act) (w : World), C w → headAny P md ops C n L f b a → wpAny P md ops Q' (f + g) b a w := by
  induction f with
  | zero => intro b a w hw h; rw [Nat.zero_add]; exact hL b a w hw h
  | succ f ih =>
    intro b a w hw h
    rw [show f + 1 + g = (f + g) + 1 from by omega]
    exact ⟨fun h0 => absurd h0 h.1, fun i hi => wpOp_of_qOp hw (fun a' w' hw' h' => ih _ a' w' hw' h') (h.2 i hi).2⟩

/-- An operation of the head that may come now may be taken first. -/
theorem headAny_first {n i : Nat} {oi : Oper} {v : Value} {L : Array Bool → Act → Prop} (hi : ops[i]? = some oi) (hsel : ∀ (j : Nat) (o : Oper) cs b, ops[j]? = some o → o.op ≠ .select cs b)
    (hs : Region.sinkB md ops n = true) (hc : Region.chainB md ops n = true) (hn : n < ops.size) (hin : i < n)
    (hdone : ∀ b a, L b a → ∀ j ∈ Region.ready md ops b, n ≤ j) (f : Nat) :
    ∀ (b : Array Bool) (a : Act), HeadInv md ops n b →
      (∀ j oj, ops[j]? = some oj → j ≠ i → b.getD j true = false → (∀ e ∈ oj.after, Region.binds md e = true → e.on ≠ i) → oi.apart ops oj = true) →
      i ∈ Region.ready md ops b → YieldsIn P ops C oi v a →
      headAny P md ops C n L f (b.setIfInBounds i true) (a.put oi.dst v) → headAny P md ops C n L (f + 1) b a := by
  induction f with
  | zero =>
    intro b a inv _ hr hy H
    have hun := (mem_ready.1 hr).1
    refine ⟨List.ne_nil_of_mem hr, fun j hj => ?_⟩
    have hjn : j < n := Nat.lt_of_not_le fun hle => tail_waits hs hc hn inv _ i rfl hin hun j hle hj
    by_cases hji : j = i
    · subst hji; exact ⟨hjn, hy.qOp hi H⟩
    · exact absurd (hdone _ _ H j (ready_mono hj hji)) (Nat.not_le_of_lt hjn)
  | succ f ih =>
    intro b a inv hfree hr hy H
    have hun := (mem_ready.1 hr).1
    refine ⟨List.ne_nil_of_mem hr, fun j hj => ?_⟩
    have hjn : j < n := Nat.lt_of_not_le fun hle => tail_waits hs hc hn inv _ i rfl hin hun j hle hj
    by_cases hji : j = i
    · subst hji; exact ⟨hjn, hy.qOp hi H⟩
    · obtain ⟨hjun, oj, hoj, hall⟩ := mem_ready.1 hj
      have hno : ∀ e ∈ oj.after, Region.binds md e = true → e.on ≠ i := by
        intro e he hb heq
        have h1 := hall e he hb
        rw [heq, getD_both hun] at h1
        cases h1
      have h2 := qOp_put hoj (hfree j oj hoj hji hjun hno) (fun cs b' => hsel i oi cs b' hi) (fun cs b' => hsel j oj cs b' hoj) hy (H.2 j (ready_mono hj hji)).2
      refine ⟨hjn, qOp_mono (fun a' h3 => ?_) h2⟩
      refine ih _ a' (inv.set hj hjn) ?_ (ready_mono hr (Ne.symm hji)) h3.1 (by rw [Array.setIfInBounds_comm _ _ hji]; exact h3.2)
      intro k ok hk hki hkun hkno
      refine hfree k ok hk hki ?_ hkno
      by_cases hjk : j = k
      · subst hjk; exact hjun
      · rwa [getD_set_ne true hjk] at hkun

/-- The head in the order of the text. -/
theorem headAny_lex {n g : Nat} {Lq : Act → Prop} (hsel : Region.noSelect ops = true) (hs : Region.sinkB md ops n = true) (hc : Region.chainB md ops n = true) (hn : n < ops.size) (l : List Oper) :
    ∀ (k : Nat) (b : Array Bool) (a : Act), (∀ j, j < l.length → l[j]? = ops[k + j]?) → k + l.length = n → HeadInv md ops n b →
    Region.lexHead md ops g l.length k b = true → wpQuiet P ops C Lq l a →
    headAny P md ops C n (fun b' a' => Region.seqB md ops g n b' = true ∧ Lq a') l.length b a := by
  induction l with
  | nil =>
    intro k b a _ hk _ hB h
    obtain rfl : k = n := by simpa using hk
    exact ⟨by simpa [Region.lexHead] using hB, h⟩
  | cons o l ih =>
    intro k b a hl hk inv hB h
    have h0 : ops[k]? = some o := by simpa using (hl 0 (by simp)).symm
    simp only [List.length_cons, Region.lexHead, Bool.and_eq_true] at hB
    have hkn : k < n := by simp only [List.length_cons] at hk; omega
    have hr' : k ∈ Region.ready md ops b := by simpa using hB.1.1
    have hst : qOp P ops C k (wpQuiet P ops C Lq l) a := by unfold qOp; simp only [h0]; exact h
    obtain ⟨v, hy, hK⟩ := yieldsIn_of_qOp h0 hst
    refine headAny_first h0 (Region.noSelect_spec hsel) hs hc hn hkn (fun b' a' hL => seqB_ready hL.1) l.length b a inv (Region.free_spec h0 hB.1.2) hr' hy ?_
    refine ih (k + 1) _ _ (fun j hj => ?_) (by simp only [List.length_cons] at hk; omega) (inv.set hr' hkn) hB.2 hK
    have := hl (j + 1) (by simp; omega)
    simpa [Nat.add_assoc, Nat.add_comm 1 j] using this

/-- ONE WALK IN THE ORDER OF THE TEXT: the first n operations quiet in the class, the others as they stand. -/
theorem wp_region_quiet_tail {id : Nat} {Q : Exit → Act → World → Prop} {a : Act} {w : World} {l : List Oper} (n : Nat) (hm : P.follows .mixedOrders = true) (hB : Region.lexTailB .any l.toArray n = true)
    (hC : C { w with drawn := w.drawn + 1 })
    (h : wpQuiet P l.toArray C (fun a' => ∀ w', C w' → wpList P l.toArray Q (l.drop n) a' w') (l.take n) a) : (Code.region id l.toArray true).wp P Q a w := by
  simp only [Region.lexTailB, Bool.and_eq_true, decide_eq_true_eq] at hB
  obtain ⟨⟨⟨⟨hsel, hn⟩, hs⟩, hc⟩, hlex⟩ := hB
  have hn' : n < l.length := by simpa using hn
  have htl : (l.take n).length = n := by simp; omega
  have inv0 : HeadInv .any l.toArray n (Array.replicate l.toArray.size false) :=
    ⟨by simp, fun j oj _ hl => (by rw [getD_replicate_false] at hl; cases hl), fun t _ ht => getD_in (by simpa using ht) (getD_replicate_false _ _)⟩
  have H := headAny_lex (md := .any) (C := C) (g := l.toArray.size - n) hsel hs hc hn (l.take n) 0 _ a
    (fun j hj => by rw [htl] at hj; simp [hj]) (by simpa using htl) inv0 (by rw [htl]; exact hlex) h
  refine wp_region_any hm ?_
  have := wpAny_of_headAny (Q' := Q) (g := l.toArray.size - n) (fun b a' w' hw' hL => by
    have := wpAny_of_seq (md := .any) (Q' := Q) (l.drop n) n b a' w' (fun j => by simp [List.getElem?_drop]) (by simpa using hL.1) (hL.2 w' hw')
    simpa using this) _ _ _ _ hC H
  rw [htl, show n + (l.toArray.size - n) = l.toArray.size by simp; omega] at this
  exact this

/-- The same for a region that is quiet whole, its operations written out. -/
theorem wp_region_quiet_c {id : Nat} {Q : Exit → Act → World → Prop} {a : Act} {w : World} {l : List Oper} (hm : P.follows .mixedOrders = true) (hB : Region.lexB .any l.toArray = true)
    (hC : C { w with drawn := w.drawn + 1 }) (h : wpQuiet P l.toArray C (fun a' => ∀ w', C w' → Q .normal a' w') l a) : (Code.region id l.toArray true).wp P Q a w :=
  wp_region_quiet hm hB hC (by simpa using h)
/-- A whole row read, in every world of the class. -/
theorem quiet_load_row {o : Oper} {a : Act} {K : Act → Prop} (ty : TypeId) (x : Operand) (ho : o.op = .load ty x)
    (g : Nat) (hx : a.eval x = .pointer (some ⟨g, 0, none⟩)) (t : TypeId) (cs : Array Value) (fr : Nat × Nat) (d : TypeDesc) (hg : ∀ w, C w → w.heap[g]? = some (.cells cs t fr))
    (hu : P.underlying ty = some d) (hd : (match d with | .struct _ | .array _ _ => true | _ => false) = true) (hi : (P.info? ty).map (·.size) = some cs.size)
    (h : K (a.put o.dst (.agg cs))) : o.quiet P a C K := by
  refine ⟨.agg cs, fun w hw => ?_, h⟩
  unfold Oper.quietAt execOp
  simp only [ho, hx, Instr.loadAt, Instr.sureAddr, Sem.run_bind, Sem.run_pure, Result.andThen_ok, run_loadVar_row w g t ty cs fr d (hg w hw) hu hd hi, Oper.quietUpon]
  exact ⟨trivial, trivial⟩
theorem wpQuiet_load_row {Q : Act → Prop} {a : Act} {o : Oper} {rest : List Oper} (hgd : o.guard = none) (ty : TypeId) (x : Operand) (ho : o.op = .load ty x)
    (g : Nat) (hx : a.eval x = .pointer (some ⟨g, 0, none⟩)) (t : TypeId) (cs : Array Value) (fr : Nat × Nat) (d : TypeDesc) (hg : ∀ w, C w → w.heap[g]? = some (.cells cs t fr))
    (hu : P.underlying ty = some d) (hd : (match d with | .struct _ | .array _ _ => true | _ => false) = true) (hi : (P.info? ty).map (·.size) = some cs.size)
    (h : wpQuiet P ops C Q rest (a.put o.dst (.agg cs))) : wpQuiet P ops C Q (o :: rest) a :=
  wpQuiet_step fun K hK => by
    rw [if_pos (by simp [Region.wanted, hgd])]
    exact quiet_load_row ty x ho g hx t cs fr d hg hu hd hi (hK _ h)
end
end Go.Proofs.YtgbafjmklefoiaaGreatDoor
end
section
namespace Go.Proofs.YtgbafjmklefoiaaGreatDoor
def vals (l : List Int) : Array Value := (l.map (Value.int .u32)).toArray
def rotr (x n : Int) : Int := bits .or .u32 (x / 2 ^ n.toNat) (x * 2 ^ (32 - n).toNat % 4294967296)
/-- a word out of four bytes -/
def word4 (a b c d : Int) : Int := bits .or .u32 (bits .or .u32 (bits .or .u32 (a % 4294967296 * 16777216 % 4294967296) (b % 4294967296 * 65536 % 4294967296)) (c % 4294967296 * 256 % 4294967296)) (d % 4294967296)
def word (b : List Int) (t : Nat) : Int := word4 (b.getD (4 * t) 0) (b.getD (4 * t + 1) 0) (b.getD (4 * t + 2) 0) (b.getD (4 * t + 3) 0)
/-- the first t words of a block -/
def sch1 (b : List Int) : Nat → List Int
  | 0 => List.replicate 64 0
  | t + 1 => (sch1 b t).set t (word b t)
def mix4 (x0 x1 x2 x3 : Int) : Int :=
  (x0 + bits .xor .u32 (bits .xor .u32 (rotr x1 7) (rotr x1 18)) (x1 / 8) + x2 + bits .xor .u32 (bits .xor .u32 (rotr x3 17) (rotr x3 19)) (x3 / 1024)) % 4294967296
def mixAt (l : List Int) (t : Nat) : Int := mix4 (l.getD (t - 16) 0) (l.getD (t - 15) 0) (l.getD (t - 7) 0) (l.getD (t - 2) 0)
def sch2 (b : List Int) : Nat → List Int
  | 0 => sch1 b 16
  | n + 1 => (sch2 b n).set (16 + n) (mixAt (sch2 b n) (16 + n))
def sched (b : List Int) : List Int := sch2 b 48
def ktab : List Int := [1116352408, 1899447441, 3049323471, 3921009573, 961987163, 1508970993, 2453635748, 2870763221, 3624381080, 310598401, 607225278, 1426881987, 1925078388, 2162078206, 2614888103, 3248222580, 3835390401, 4022224774, 264347078, 604807628, 770255983, 1249150122, 1555081692, 1996064986, 2554220882, 2821834349, 2952996808, 3210313671, 3336571891, 3584528711, 113926993, 338241895, 666307205, 773529912, 1294757372, 1396182291, 1695183700, 1986661051, 2177026350, 2456956037, 2730485921, 2820302411, 3259730800, 3345764771, 3516065817, 3600352804, 4094571909, 275423344, 430227734, 506948616, 659060556, 883997877, 958139571, 1322822218, 1537002063, 1747873779, 1955562222, 2024104815, 2227730452, 2361852424, 2428436474, 2756734187, 3204031479, 3329325298]
/-- the eight words that turn -/
structure R8 where
  a : Int
  b : Int
  c : Int
  d : Int
  e : Int
  f : Int
  g : Int
  h : Int
def R8.list (s : R8) : List Int := [s.a, s.b, s.c, s.d, s.e, s.f, s.g, s.h]
def rndX (kt wt : Int) (s : R8) : Int :=
  (s.h + bits .xor .u32 (bits .xor .u32 (rotr s.e 6) (rotr s.e 11)) (rotr s.e 25) + bits .xor .u32 (bits .and .u32 s.e s.f) (bits .and .u32 (bits .xor .u32 (if IntKind.u32.signed = true then -1 else IntKind.u32.max) s.e) s.g) + kt + wt) % 4294967296
def rndY (s : R8) : Int :=
  (bits .xor .u32 (bits .xor .u32 (rotr s.a 2) (rotr s.a 13)) (rotr s.a 22) + bits .xor .u32 (bits .xor .u32 (bits .and .u32 s.a s.b) (bits .and .u32 s.a s.c)) (bits .and .u32 s.b s.c)) % 4294967296
def rnd (kt wt : Int) (s : R8) : R8 := ⟨(rndX kt wt s + rndY s) % 4294967296, s.a, s.b, s.c, (s.d + rndX kt wt s) % 4294967296, s.e, s.f, s.g⟩
def rnds (W : List Int) (s : R8) : Nat → R8
  | 0 => s
  | t + 1 => rnd (ktab.getD t 0) (W.getD t 0) (rnds W s t)
def R8.add (s v : R8) : R8 := ⟨(s.a + v.a) % 4294967296, (s.b + v.b) % 4294967296, (s.c + v.c) % 4294967296, (s.d + v.d) % 4294967296, (s.e + v.e) % 4294967296, (s.f + v.f) % 4294967296, (s.g + v.g) % 4294967296, (s.h + v.h) % 4294967296⟩
/-- the eight words behind a block -/
def blk (s : R8) (b : List Int) : R8 := s.add (rnds (sched b) s 64)
theorem sch1_length (b : List Int) (t : Nat) : (sch1 b t).length = 64 := by
  induction t with
  | zero => simp [sch1]
  | succ t ih => simp [sch1, ih]
theorem sch2_length (b : List Int) (t : Nat) : (sch2 b t).length = 64 := by
  induction t with
  | zero => simp [sch2, sch1_length]
  | succ t ih => simp [sch2, ih]
theorem vals_get (l : List Int) (t : Nat) (h : t < l.length) : (vals l)[t]? = some (.int .u32 (l.getD t 0)) := by
  simp [vals, h]
theorem vals_set (l : List Int) (t : Nat) (x : Int) : (vals l).setIfInBounds t (.int .u32 x) = vals (l.set t x) := by
  apply Array.ext'
  simp [vals]
end Go.Proofs.YtgbafjmklefoiaaGreatDoor
end
section
namespace Go.Proofs.YtgbafjmklefoiaaGreatDoor
set_option maxRecDepth 100000
open Go.RowKit
set_option maxHeartbeats 400000 in
theorem turn_any (x n : Int) (w : World) (hn : 0 ≤ n) (hn1 : n ≤ 32) :
    Calls Tryz.prog 162 #[.int .u32 x, .int .i64 n] w fun e w' => e = .returned (.int .u32 (rotr x n)) ∧ ∃ k, w' = w.drewN k := by
  go_enter Tryz.func162, Tryz.ntmps162
  go_wp2
  go_quiet (fail)
  go_wp2
  go_ret
  exact ⟨rfl, _, rfl⟩
/-- the table of constants as it lies in memory -/
def Tab (w : World) : Prop := ∀ t, t < 64 → w.cell? ⟨18, t, none⟩ = some (.int .u32 (ktab.getD t 0))
/-- the words of h written one by one into the block H -/
def updH (w : World) (H : Nat) (h : List Int) : Nat → World
  | 0 => w
  | i + 1 => (updH w H h i).setCell ⟨H, i, none⟩ (.int .u32 (h.getD i 0))
theorem updH_size (w : World) (H : Nat) (h : List Int) (i : Nat) : (updH w H h i).heap.size = w.heap.size := by
  induction i with
  | zero => rfl
  | succ i ih => rw [updH]; simpa using ih
theorem updH_same (w : World) (H : Nat) (h : List Int) (t : TypeId) (o : List Int) (hH : w.heap[H]? = some (.cells (vals o) t (0, 0))) (ho : o.length = h.length) (i : Nat) (hi : i ≤ h.length) :
    (updH w H h i).heap[H]? = some (.cells (vals (h.take i ++ o.drop i)) t (0, 0)) := by
  induction i with
  | zero => simpa [updH] using hH
  | succ i ih =>
    rw [updH, heap_setCell_same _ _ _ _ _ _ (ih (by omega)), vals_set]
    congr 3
    apply List.ext_getElem?
    intro j
    by_cases hj : j = i
    · subst hj; simp [List.getElem?_set, List.getElem?_append, ho]; rw [if_pos (by omega), if_pos (by omega)]; simp [List.getElem?_eq_getElem (show j < h.length by omega)]
    · rw [List.getElem?_set_ne (Ne.symm hj)]
      simp [List.getElem?_append, List.getElem?_take]
      by_cases h1 : j < i
      · rw [if_pos (by omega), if_pos (by omega), if_pos (by omega), if_pos (by omega)]
      · rw [if_neg (by omega), if_neg (by omega)]; congr 1; omega

theorem idx8 (s : R8) (i : Nat) (hi : i < 8) (w : World) :
    (Instr.index 230 (.agg #[.int .u32 s.a, .int .u32 s.b, .int .u32 s.c, .int .u32 s.d, .int .u32 s.e, .int .u32 s.f, .int .u32 s.g, .int .u32 s.h]) (.int .i64 i)).run Tryz.prog w = .ok (.int .u32 (s.list.getD i 0)) w := by
  have h8 : i = 0 ∨ i = 1 ∨ i = 2 ∨ i = 3 ∨ i = 4 ∨ i = 5 ∨ i = 6 ∨ i = 7 := by omega
  rcases h8 with rfl | rfl | rfl | rfl | rfl | rfl | rfl | rfl <;> rfl
theorem cell_of_vals {w : World} {g : Nat} {l : List Int} {T : TypeId} {fr : Nat × Nat} (h : w.heap[g]? = some (.cells (vals l) T fr)) (j : Nat) (hj : j < l.length) :
    w.cell? ⟨g, j, none⟩ = some (.int .u32 (l.getD j 0)) := by
  rw [cell_of_row w g j _ T fr h, vals_get l j hj]
theorem add_at (s : R8) (b : List Int) (t : Nat) (ht : t < 8) :
    (((blk s b).list.take t ++ s.list.drop t).getD t 0 + (rnds (sched b) s 64).list.getD t 0) % 4294967296 = (blk s b).list.getD t 0 := by
  have h8 : t = 0 ∨ t = 1 ∨ t = 2 ∨ t = 3 ∨ t = 4 ∨ t = 5 ∨ t = 6 ∨ t = 7 := by omega
  unfold blk
  generalize rnds (sched b) s 64 = r
  rcases h8 with rfl | rfl | rfl | rfl | rfl | rfl | rfl | rfl <;> rfl
def BlkPost (w : World) (H : Nat) (s : R8) (b : List Int) (w' : World) : Prop :=
  ∃ k, w' = ((updH w H (blk s b).list 8).alloc (.cells (vals (sched b)) 228)).drewN k

theorem cell_loc (w : World) (W : List Int) (T : TypeId) (k n t : Nat) (hn : n = w.heap.size) (ht : t < W.length) :
    ((w.alloc (.cells (vals W) T)).drewN k).cell? ⟨n, t, none⟩ = some (.int .u32 (W.getD t 0)) := by
  rw [World.cell?_drewN, World.cell?_alloc_at _ _ _ _ hn, vals_get _ _ ht]
theorem froz_loc (w : World) (W : List Int) (T : TypeId) (k n t : Nat) (hn : n = w.heap.size) :
    ((w.alloc (.cells (vals W) T)).drewN k).frozen? ⟨n, t, none⟩ = false := by
  rw [World.frozen?_drewN, World.frozen?_alloc_at _ _ _ _ hn]
theorem cell_old (w : World) (o : Obj) (k : Nat) (B j : Nat) (v : Value) (hB : B < w.heap.size) (h : w.cell? ⟨B, j, none⟩ = some v) :
    ((w.alloc o).drewN k).cell? ⟨B, j, none⟩ = some v := by
  rw [World.cell?_drewN, World.cell?_alloc_past _ _ _ hB, h]
theorem setCell_drewN' (w : World) (n : Nat) (a : Addr) (v : Value) : (w.drewN n).setCell a v = (w.setCell a v).drewN n := rfl
theorem store_loc (w : World) (W : List Int) (T : TypeId) (k n t : Nat) (x : Int) (hn : n = w.heap.size) :
    ((w.alloc (.cells (vals W) T)).drewN k).setCell ⟨n, t, none⟩ (.int .u32 x) = (w.alloc (.cells (vals (W.set t x)) T)).drewN k := by
  rw [setCell_drewN', World.setCell_alloc_at _ _ _ _ _ hn, vals_set]

set_option maxHeartbeats 600000 in
set_option maxRecDepth 100000 in
theorem block_any (w : World) (H B off cap : Nat) (b : List Int) (s : R8) (T : TypeId) (hT : Tab w) (hsz : 18 < w.heap.size)
    (hb : ∀ i, i < 64 → w.cell? ⟨B, off + i, none⟩ = some (.int .u8 (b.getD i 0))) (hBs : B < w.heap.size) (_hcap : 64 ≤ cap)
    (hH : w.heap[H]? = some (.cells (vals s.list) T (0, 0))) :
    Calls Tryz.prog 150 #[.pointer (some ⟨H, 0, none⟩), .slice (some ⟨B, off, none⟩) 64 cap] w fun e w' => e = .returned (.tuple #[]) ∧ BlkPost w H s b w' := by
  have hHs : H < w.heap.size := (Array.getElem?_eq_some_iff.1 hH).1
  go_enter Tryz.func150, Tryz.ntmps150
  have HT := Bx.mk hT; have Hb := Bx.mk hb; have HH := Bx.mk hH
  clear hT hb hH
  go_upto_block 0 with (fail)
  go_cut [] (fun wc => ∃ k : Nat, wc = ((w.alloc (.cells (vals (sch1 b 16)) 228)).drewN k))
  case first =>
    go_wp2_with fail
    go_loopw [22] (fun i wr => ∃ t k : Nat, t ≤ 16 ∧ i = .int .i64 t ∧ wr = ((w.alloc (.cells (vals (sch1 b t)) 228)).drewN k)) (fun i _ => 16 - (intOf i).toNat)
    case atStart => exact ⟨0, 0, by omega, rfl, rfl⟩
    case round =>
      obtain ⟨t, k, ht, rfl, rfl⟩ := hrel
      by_cases hlt : t < 16
      · have c0 := cell_old w (.cells (vals (sch1 b t)) 228) k B _ _ hBs (Hb.out (4 * t) (by omega))
        have c1 := cell_old w (.cells (vals (sch1 b t)) 228) k B _ _ hBs (Hb.out (4 * t + 1) (by omega))
        have c2 := cell_old w (.cells (vals (sch1 b t)) 228) k B _ _ hBs (Hb.out (4 * t + 2) (by omega))
        have c3 := cell_old w (.cells (vals (sch1 b t)) 228) k B _ _ hBs (Hb.out (4 * t + 3) (by omega))
        have c4 := cell_loc w (sch1 b t) 228 k w.heap.size t rfl (by rw [sch1_length]; omega)
        have cf := froz_loc w (sch1 b t) 228 k w.heap.size t rfl
        generalize hW : ((w.alloc (.cells (vals (sch1 b t)) 228)).drewN k) = W at c0 c1 c2 c3 c4 cf ⊢
        have HW := Bx.mk hW; clear hW
        generalize hx0 : b.getD (4*t) 0 = x0 at c0
        generalize hx1 : b.getD (4*t+1) 0 = x1 at c1
        generalize hx2 : b.getD (4*t+2) 0 = x2 at c2
        generalize hx3 : b.getD (4*t+3) 0 = x3 at c3
        have H0 := Bx.mk hx0; have H1 := Bx.mk hx1; have H2 := Bx.mk hx2; have H3 := Bx.mk hx3; clear hx0 hx1 hx2 hx3
        generalize (sch1 b t).getD t 0 = x4 at c4
        have i0 : 0 ≤ 4 * (t : Int) := by omega
        have i1 : 4 * (t : Int) < 64 := by omega
        go_wp2_with fail
        refine wp_region_quiet_tail (C := fun w' => ∃ n, w' = W.drewN n) 35 (by kernel_rfl) (by kernel_rfl) ⟨1, rfl⟩ ?_
        simp only [List.take_succ_cons, List.take_zero, List.drop_succ_cons, List.drop_zero]
        repeat go_big_quiet_step (fail)
        refine wpQuiet_nil ?_
        intro _ hw'
        obtain ⟨nr, hw''⟩ := hw'
        subst hw''
        go_wp2_with fail
        go_roundw
        case rel =>
          refine ⟨t + 1, k + nr, by omega, by go_num, ?_⟩
          rw [← HW.out, World.drewN_drewN, store_loc _ _ _ _ _ _ _ rfl]
          rw [← H0.out, ← H1.out, ← H2.out, ← H3.out]
          rfl
        case measure => simp [intOf]; omega
      · obtain rfl : t = 16 := by omega
        go_wp2_with fail
        go_meet
        case rel => exact ⟨k, rfl⟩
  case rest =>
   obtain ⟨k0, rfl⟩ := hcut
   go_upto_block 2 with (fail)
   go_cut [] (fun wc => ∃ k : Nat, wc = ((w.alloc (.cells (vals (sch2 b 48)) 228)).drewN k))
   case first =>
    go_wp2_with fail
    go_loopw [6] (fun i wr => ∃ t k : Nat, t ≤ 48 ∧ i = .int .i64 (16 + t : Nat) ∧ wr = ((w.alloc (.cells (vals (sch2 b t)) 228)).drewN k)) (fun i _ => 64 - (intOf i).toNat)
    case atStart => exact ⟨0, k0, by omega, rfl, rfl⟩
    case round =>
      obtain ⟨t2, k2, ht2, rfl, rfl⟩ := hrel
      by_cases hlt2 : t2 < 48
      · have hl := sch2_length b t2
        have c0 := cell_loc w (sch2 b t2) 228 k2 w.heap.size (16 + t2 - 16) rfl (by omega)
        have c1 := cell_loc w (sch2 b t2) 228 k2 w.heap.size (16 + t2 - 15) rfl (by omega)
        have c2 := cell_loc w (sch2 b t2) 228 k2 w.heap.size (16 + t2 - 7) rfl (by omega)
        have c3 := cell_loc w (sch2 b t2) 228 k2 w.heap.size (16 + t2 - 2) rfl (by omega)
        have c4 := cell_loc w (sch2 b t2) 228 k2 w.heap.size (16 + t2) rfl (by omega)
        have cf := froz_loc w (sch2 b t2) 228 k2 w.heap.size (16 + t2) rfl
        clear hl
        generalize hW : ((w.alloc (.cells (vals (sch2 b t2)) 228)).drewN k2) = W at c0 c1 c2 c3 c4 cf ⊢
        have HW := Bx.mk hW; clear hW
        generalize hx0 : (sch2 b t2).getD (16 + t2 - 16) 0 = x0 at c0
        generalize hx1 : (sch2 b t2).getD (16 + t2 - 15) 0 = x1 at c1
        generalize hx2 : (sch2 b t2).getD (16 + t2 - 7) 0 = x2 at c2
        generalize hx3 : (sch2 b t2).getD (16 + t2 - 2) 0 = x3 at c3
        generalize (sch2 b t2).getD (16 + t2) 0 = x4 at c4
        have H0 := Bx.mk hx0; have H1 := Bx.mk hx1; have H2 := Bx.mk hx2; have H3 := Bx.mk hx3; clear hx0 hx1 hx2 hx3
        generalize hm : 16 + t2 = m at c0 c1 c2 c3 c4 cf ⊢
        have Hm := Bx.mk hm
        have hm1 : 16 ≤ m := by omega
        have hm2 : m < 64 := by omega
        clear hm
        go_wp2_with fail
        go_quiet (fail)
        go_wp2_with fail
        refine wp_region_quiet_tail (C := fun w' => ∃ n, w' = W.drewN n) 29 (by kernel_rfl) (by kernel_rfl) ⟨nq + 1, rfl⟩ ?_
        simp only [List.take_succ_cons, List.take_zero, List.drop_succ_cons, List.drop_zero]
        repeat go_big_quiet_step ((go_at_call 162; exact Calls.quiet_of (turn_any _ _ _ (by omega) (by omega))))
        refine wpQuiet_nil ?_
        intro _ hw'
        obtain ⟨nr, hw''⟩ := hw'
        subst hw''
        go_wp2_with fail
        go_roundw
        case rel =>
          refine ⟨t2 + 1, k2 + nr, by omega, by rw [← Hm.out]; go_num, ?_⟩
          rw [← HW.out, World.drewN_drewN, store_loc _ _ _ _ _ _ _ rfl]
          rw [← H0.out, ← H1.out, ← H2.out, ← H3.out, ← Hm.out]
          rfl
        case measure => simp [intOf]; omega
      · obtain rfl : t2 = 48 := by omega
        go_wp2_with fail
        go_meet
        case rel => exact ⟨k2, rfl⟩
   case rest =>
    obtain ⟨k, rfl⟩ := hcut
    have d0 := cell_old w (.cells (vals (sch2 b 48)) 228) k H _ _ hHs (cell_of_vals HH.out 0 (by simp [R8.list]))
    have d1 := cell_old w (.cells (vals (sch2 b 48)) 228) k H _ _ hHs (cell_of_vals HH.out 1 (by simp [R8.list]))
    have d2 := cell_old w (.cells (vals (sch2 b 48)) 228) k H _ _ hHs (cell_of_vals HH.out 2 (by simp [R8.list]))
    have d3 := cell_old w (.cells (vals (sch2 b 48)) 228) k H _ _ hHs (cell_of_vals HH.out 3 (by simp [R8.list]))
    have d4 := cell_old w (.cells (vals (sch2 b 48)) 228) k H _ _ hHs (cell_of_vals HH.out 4 (by simp [R8.list]))
    have d5 := cell_old w (.cells (vals (sch2 b 48)) 228) k H _ _ hHs (cell_of_vals HH.out 5 (by simp [R8.list]))
    have d6 := cell_old w (.cells (vals (sch2 b 48)) 228) k H _ _ hHs (cell_of_vals HH.out 6 (by simp [R8.list]))
    have d7 := cell_old w (.cells (vals (sch2 b 48)) 228) k H _ _ hHs (cell_of_vals HH.out 7 (by simp [R8.list]))
    have e0 : s.list.getD 0 0 = s.a := rfl
    rw [e0] at d0; clear e0
    have e1 : s.list.getD 1 0 = s.b := rfl
    rw [e1] at d1; clear e1
    have e2 : s.list.getD 2 0 = s.c := rfl
    rw [e2] at d2; clear e2
    have e3 : s.list.getD 3 0 = s.d := rfl
    rw [e3] at d3; clear e3
    have e4 : s.list.getD 4 0 = s.e := rfl
    rw [e4] at d4; clear e4
    have e5 : s.list.getD 5 0 = s.f := rfl
    rw [e5] at d5; clear e5
    have e6 : s.list.getD 6 0 = s.g := rfl
    rw [e6] at d6; clear e6
    have e7 : s.list.getD 7 0 = s.h := rfl
    rw [e7] at d7; clear e7
    generalize hW : ((w.alloc (.cells (vals (sch2 b 48)) 228)).drewN k) = W at d0 d1 d2 d3 d4 d5 d6 d7 ⊢
    have HW := Bx.mk hW; clear hW
    go_wp2_with fail
    go_quiet (fail)
    clear d0 d1 d2 d3 d4 d5 d6 d7
    go_upto_block 4 with (fail)
    go_cut [9, 10, 11, 12, 13, 14, 15, 16] (fun va vb vc vd ve vf vg vh wc => (∃ k : Nat, wc = W.drewN k) ∧ va = .int .u32 (rnds (sched b) s 64).a ∧ vb = .int .u32 (rnds (sched b) s 64).b ∧ vc = .int .u32 (rnds (sched b) s 64).c ∧ vd = .int .u32 (rnds (sched b) s 64).d ∧ ve = .int .u32 (rnds (sched b) s 64).e ∧ vf = .int .u32 (rnds (sched b) s 64).f ∧ vg = .int .u32 (rnds (sched b) s 64).g ∧ vh = .int .u32 (rnds (sched b) s 64).h)
    case first =>
     go_wp2_with fail
     go_loopw [9, 10, 11, 12, 13, 14, 15, 16, 134] (fun va vb vc vd ve vf vg vh i wr => ∃ (t k : Nat), t ≤ 64 ∧ i = .int .i64 t ∧ wr = W.drewN k ∧ va = .int .u32 (rnds (sched b) s t).a ∧ vb = .int .u32 (rnds (sched b) s t).b ∧ vc = .int .u32 (rnds (sched b) s t).c ∧ vd = .int .u32 (rnds (sched b) s t).d ∧ ve = .int .u32 (rnds (sched b) s t).e ∧ vf = .int .u32 (rnds (sched b) s t).f ∧ vg = .int .u32 (rnds (sched b) s t).g ∧ vh = .int .u32 (rnds (sched b) s t).h)
       (fun _ _ _ _ _ _ _ _ i _ => 64 - (intOf i).toNat)
     case atStart => exact ⟨0, nq, by omega, rfl, rfl, rfl, rfl, rfl, rfl, rfl, rfl, rfl, rfl⟩
     case round =>
      obtain ⟨t3, k3, ht3, rfl, rfl, rfl, rfl, rfl, rfl, rfl, rfl, rfl, rfl⟩ := hrel
      by_cases hlt3 : t3 < 64
      · generalize hr : rnds (sched b) s t3 = r
        obtain ⟨ra, rb, rc, rd, re, rf, rg, rh⟩ := r
        dsimp only
        have HR := Bx.mk hr; clear hr
        have c0 := cell_loc w (sch2 b 48) 228 k w.heap.size t3 rfl (by rw [sch2_length]; omega)
        have c1 := cell_old w (.cells (vals (sch2 b 48)) 228) k _ _ _ hsz (HT.out t3 hlt3)
        rw [HW.out] at c0 c1
        generalize hx0 : (sch2 b 48).getD t3 0 = wt at c0
        generalize hx1 : ktab.getD t3 0 = kt at c1
        have H0 := Bx.mk hx0; have H1 := Bx.mk hx1; clear hx0 hx1
        go_wp2_with fail
        generalize hV : W.drewN k3 = V
        have HV := Bx.mk hV; clear hV
        have g0 : V.cell? ⟨w.heap.size, t3, none⟩ = some (.int .u32 wt) := by rw [← HV.out]; exact c0
        have g1 : V.cell? ⟨18, t3, none⟩ = some (.int .u32 kt) := by rw [← HV.out]; exact c1
        clear c0 c1
        go_quiet ((go_at_call 162; exact Calls.quiet_of (turn_any _ _ _ (by omega) (by omega))))
        go_wp2_with (go_at_call 162; refine (turn_any _ _ _ (by omega) (by omega)).mono ?_; rintro e w' ⟨rfl, kk, rfl⟩)
        go_roundw
        case rel =>
          refine ⟨t3 + 1, _, by omega, by go_num, by rw [← HV.out]; simp only [World.drewN_drewN]; rfl, ?_⟩
          have hs : rnds (sched b) s (t3 + 1) = rnd kt wt ⟨ra, rb, rc, rd, re, rf, rg, rh⟩ := by rw [← H0.out, ← H1.out, ← HR.out]; rfl
          rw [hs]
          exact ⟨rfl, rfl, rfl, rfl, rfl, rfl, rfl, rfl⟩
        case measure => simp [intOf]; omega
      · obtain rfl : t3 = 64 := by omega
        go_wp2_with fail
        go_meet
        case rel => exact ⟨⟨k3, rfl⟩, rfl, rfl, rfl, rfl, rfl, rfl, rfl, rfl⟩
    case rest =>
     obtain ⟨⟨kw, rfl⟩, rfl, rfl, rfl, rfl, rfl, rfl, rfl, rfl⟩ := hcut
     generalize hr : rnds (sched b) s 64 = r
     have HR := Bx.mk hr; clear hr
     go_wp2_with fail
     go_loopw [206] (fun i wr => ∃ (t k : Nat), t ≤ 8 ∧ i = .int .i64 t ∧ wr = ((updH w H (blk s b).list t).alloc (.cells (vals (sched b)) 228)).drewN k) (fun i _ => 8 - (intOf i).toNat)
     case atStart => exact ⟨0, k + kw, by omega, rfl, by rw [← HW.out, World.drewN_drewN]; rfl⟩
     case round =>
      obtain ⟨t4, k4, ht4, rfl, rfl⟩ := hrel
      by_cases hlt4 : t4 < 8
      · have hx := idx8 r t4 hlt4
        have hup := updH_same w H (blk s b).list T s.list HH.out rfl t4 (by simp [R8.list]; omega)
        have c0 := cell_old (updH w H (blk s b).list t4) (.cells (vals (sched b)) 228) k4 H _ _ (by rw [updH_size]; exact hHs) (cell_of_vals hup t4 (by simp [R8.list]; omega))
        have cf : (((updH w H (blk s b).list t4).alloc (.cells (vals (sched b)) 228)).drewN k4).frozen? ⟨H, t4, none⟩ = false := by
          rw [World.frozen?_drewN, World.frozen?_alloc_past _ _ _ (by rw [updH_size]; exact hHs), frozen_of_row _ _ _ _ _ hup]
        clear hup
        generalize hx0 : (List.take t4 (blk s b).list ++ List.drop t4 s.list).getD t4 0 = x0 at c0
        generalize hx1 : r.list.getD t4 0 = x1 at hx
        have H0 := Bx.mk hx0; have H1 := Bx.mk hx1; clear hx0 hx1
        generalize hV : ((updH w H (blk s b).list t4).alloc (.cells (vals (sched b)) 228)).drewN k4 = V at c0 cf ⊢
        have HV := Bx.mk hV; clear hV
        go_wp2_with fail
        refine wp_region_quiet_tail (C := fun w' => ∃ n, w' = V.drewN n) 9 (by kernel_rfl) (by kernel_rfl) ⟨1, rfl⟩ ?_
        simp only [List.take_succ_cons, List.take_zero, List.drop_succ_cons, List.drop_zero]
        repeat go_big_quiet_step (fail)
        refine wpQuiet_nil ?_
        intro _ hw'
        obtain ⟨nr, hw''⟩ := hw'
        subst hw''
        go_wp2_with fail
        go_roundw
        case rel =>
          refine ⟨t4 + 1, k4 + nr, by omega, by go_num, ?_⟩
          have he : (x0 + x1) % 4294967296 = (blk s b).list.getD t4 0 := by
            rw [← H0.out, ← H1.out, ← HR.out]
            exact add_at s b t4 hlt4
          rw [← HV.out, he, World.drewN_drewN, setCell_drewN', World.setCell_alloc_past _ _ _ _ (by rw [updH_size]; exact hHs)]
          rfl
        case measure => simp [intOf]; omega
      · obtain rfl : t4 = 8 := by omega
        go_wp2_with fail
        go_end0
        exact ⟨rfl, _, rfl⟩
end Go.Proofs.YtgbafjmklefoiaaGreatDoor
end
section
namespace Go.Proofs.YtgbafjmklefoiaaGreatDoor
set_option maxRecDepth 100000
open Go.RowKit
set_option maxHeartbeats 400000 in
theorem rturn_any (x n : Int) (w : World) (hn : 0 ≤ n) (hn1 : n ≤ 32) :
    Calls Tryz.prog 159 #[.int .u32 x, .int .i64 n] w fun e w' => e = .returned (.int .u32 (rotr x n)) ∧ ∃ k, w' = w.drewN k := by
  go_enter Tryz.func159, Tryz.ntmps159
  go_wp2
  go_quiet (fail)
  go_wp2
  go_ret
  exact ⟨rfl, _, rfl⟩
def zeros64 : Array Value := vals (List.replicate 64 0)
theorem under64 : Tryz.prog.underlying 228 = some (.array 64 227) := by kernel_rfl
theorem under8 : Tryz.prog.underlying 230 = some (.array 8 227) := by kernel_rfl
theorem size64 : (Tryz.prog.info? 228).map (·.size) = some 64 := by kernel_rfl
theorem size8 : (Tryz.prog.info? 230).map (·.size) = some 8 := by kernel_rfl
theorem vals_size (l : List Int) : (vals l).size = l.length := by simp [vals]
theorem vals_one (l : List Int) : (vals l).all (·.oneCell') = true := by
  rw [Array.all_eq_true_iff_forall_mem]; intro x hx; simp [vals] at hx; obtain ⟨y, _, rfl⟩ := hx; rfl
set_option maxHeartbeats 1600000 in
set_option maxRecDepth 100000 in
theorem rsched_any (w : World) (B off cap : Nat) (b : List Int)
    (hb : ∀ i, i < 64 → w.cell? ⟨B, off + i, none⟩ = some (.int .u8 (b.getD i 0))) (hBs : B < w.heap.size) (_hcap : 64 ≤ cap) :
    Calls Tryz.prog 158 #[.slice (some ⟨B, off, none⟩) 64 cap] w fun e w' => e = .returned (.agg (vals (sched b))) ∧ Below w.heap.size w w' := by
  go_enter Tryz.func158, Tryz.ntmps158
  have Hb : Bx (∀ i, i < 64 → (w.alloc (.cells zeros64 228)).cell? ⟨B, off + i, none⟩ = some (.int .u8 (b.getD i 0))) := ⟨fun i hi => (cell_old w _ 0 B _ _ hBs (hb i hi))⟩
  have hBs1 : B < (w.alloc (.cells zeros64 228)).heap.size := by simp; omega
  have hsz1 : w.heap.size + 1 = (w.alloc (.cells zeros64 228)).heap.size := by simp
  have Hs := Bx.mk hsz1; have HB := Bx.mk hBs1
  clear hb hsz1 hBs1
  go_upto_block 0 with (fail)
  go_cut [] (fun wc => ∃ k : Nat, wc = ((((w.alloc (.cells zeros64 228)).alloc (.cells (vals (sch1 b 16)) 228))).drewN k))
  case first =>
    go_wp2_with fail
    go_loopw [4] (fun i wr => ∃ t k : Nat, t ≤ 16 ∧ i = .int .i64 t ∧ wr = ((((w.alloc (.cells zeros64 228)).alloc (.cells (vals (sch1 b t)) 228))).drewN k)) (fun i _ => 16 - (intOf i).toNat)
    case atStart => exact ⟨0, 0, by omega, rfl, rfl⟩
    case round =>
      obtain ⟨t, k, ht, rfl, rfl⟩ := hrel
      by_cases hlt : t < 16
      · have c0 := cell_old (w.alloc (.cells zeros64 228)) (.cells (vals (sch1 b t)) 228) k B _ _ HB.out (Hb.out (4 * t) (by omega))
        have c1 := cell_old (w.alloc (.cells zeros64 228)) (.cells (vals (sch1 b t)) 228) k B _ _ HB.out (Hb.out (4 * t + 1) (by omega))
        have c2 := cell_old (w.alloc (.cells zeros64 228)) (.cells (vals (sch1 b t)) 228) k B _ _ HB.out (Hb.out (4 * t + 2) (by omega))
        have c3 := cell_old (w.alloc (.cells zeros64 228)) (.cells (vals (sch1 b t)) 228) k B _ _ HB.out (Hb.out (4 * t + 3) (by omega))
        have c4 := cell_loc (w.alloc (.cells zeros64 228)) (sch1 b t) 228 k (w.heap.size + 1) t Hs.out (by rw [sch1_length]; omega)
        have cf := froz_loc (w.alloc (.cells zeros64 228)) (sch1 b t) 228 k (w.heap.size + 1) t Hs.out
        generalize hW : ((((w.alloc (.cells zeros64 228)).alloc (.cells (vals (sch1 b t)) 228))).drewN k) = W at c0 c1 c2 c3 c4 cf ⊢
        have HW := Bx.mk hW; clear hW
        generalize hx0 : b.getD (4*t) 0 = x0 at c0
        generalize hx1 : b.getD (4*t+1) 0 = x1 at c1
        generalize hx2 : b.getD (4*t+2) 0 = x2 at c2
        generalize hx3 : b.getD (4*t+3) 0 = x3 at c3
        have H0 := Bx.mk hx0; have H1 := Bx.mk hx1; have H2 := Bx.mk hx2; have H3 := Bx.mk hx3; clear hx0 hx1 hx2 hx3
        generalize (sch1 b t).getD t 0 = x4 at c4
        have i0 : 0 ≤ 4 * (t : Int) := by omega
        have i1 : 4 * (t : Int) < 64 := by omega
        go_wp2_with fail
        refine wp_region_quiet_tail (C := fun w' => ∃ n, w' = W.drewN n) 35 (by kernel_rfl) (by kernel_rfl) ⟨1, rfl⟩ ?_
        simp only [List.take_succ_cons, List.take_zero, List.drop_succ_cons, List.drop_zero]
        repeat go_big_quiet_step (fail)
        refine wpQuiet_nil ?_
        intro _ hw'
        obtain ⟨nr, hw''⟩ := hw'
        subst hw''
        go_wp2_with fail
        go_roundw
        case rel =>
          refine ⟨t + 1, k + nr, by omega, by go_num, ?_⟩
          rw [← HW.out, World.drewN_drewN, store_loc _ _ _ _ _ _ _ Hs.out]
          rw [← H0.out, ← H1.out, ← H2.out, ← H3.out]
          rfl
        case measure => simp [intOf]; omega
      · obtain rfl : t = 16 := by omega
        go_wp2_with fail
        go_meet
        case rel => exact ⟨k, rfl⟩
  case rest =>
   obtain ⟨k0, rfl⟩ := hcut
   go_upto_block 2 with (fail)
   go_cut [] (fun wc => ∃ k : Nat, wc = ((((w.alloc (.cells zeros64 228)).alloc (.cells (vals (sch2 b 48)) 228))).drewN k))
   case first =>
    go_wp2_with fail
    go_loopw [5] (fun i wr => ∃ t k : Nat, t ≤ 48 ∧ i = .int .i64 (16 + t : Nat) ∧ wr = ((((w.alloc (.cells zeros64 228)).alloc (.cells (vals (sch2 b t)) 228))).drewN k)) (fun i _ => 64 - (intOf i).toNat)
    case atStart => exact ⟨0, k0, by omega, rfl, rfl⟩
    case round =>
      obtain ⟨t2, k2, ht2, rfl, rfl⟩ := hrel
      by_cases hlt2 : t2 < 48
      · have hl := sch2_length b t2
        have c0 := cell_loc (w.alloc (.cells zeros64 228)) (sch2 b t2) 228 k2 (w.heap.size + 1) (16 + t2 - 16) Hs.out (by omega)
        have c1 := cell_loc (w.alloc (.cells zeros64 228)) (sch2 b t2) 228 k2 (w.heap.size + 1) (16 + t2 - 15) Hs.out (by omega)
        have c2 := cell_loc (w.alloc (.cells zeros64 228)) (sch2 b t2) 228 k2 (w.heap.size + 1) (16 + t2 - 7) Hs.out (by omega)
        have c3 := cell_loc (w.alloc (.cells zeros64 228)) (sch2 b t2) 228 k2 (w.heap.size + 1) (16 + t2 - 2) Hs.out (by omega)
        have c4 := cell_loc (w.alloc (.cells zeros64 228)) (sch2 b t2) 228 k2 (w.heap.size + 1) (16 + t2) Hs.out (by omega)
        have cf := froz_loc (w.alloc (.cells zeros64 228)) (sch2 b t2) 228 k2 (w.heap.size + 1) (16 + t2) Hs.out
        clear hl
        generalize hW : ((((w.alloc (.cells zeros64 228)).alloc (.cells (vals (sch2 b t2)) 228))).drewN k2) = W at c0 c1 c2 c3 c4 cf ⊢
        have HW := Bx.mk hW; clear hW
        generalize hx0 : (sch2 b t2).getD (16 + t2 - 16) 0 = x0 at c0
        generalize hx1 : (sch2 b t2).getD (16 + t2 - 15) 0 = x1 at c1
        generalize hx2 : (sch2 b t2).getD (16 + t2 - 7) 0 = x2 at c2
        generalize hx3 : (sch2 b t2).getD (16 + t2 - 2) 0 = x3 at c3
        generalize (sch2 b t2).getD (16 + t2) 0 = x4 at c4
        have H0 := Bx.mk hx0; have H1 := Bx.mk hx1; have H2 := Bx.mk hx2; have H3 := Bx.mk hx3; clear hx0 hx1 hx2 hx3
        generalize hm : 16 + t2 = m at c0 c1 c2 c3 c4 cf ⊢
        have Hm := Bx.mk hm
        have hm1 : 16 ≤ m := by omega
        have hm2 : m < 64 := by omega
        clear hm
        go_wp2_with fail
        refine wp_region_quiet_tail (C := fun w' => ∃ n, w' = W.drewN n) 29 (by kernel_rfl) (by kernel_rfl) ⟨1, rfl⟩ ?_
        simp only [List.take_succ_cons, List.take_zero, List.drop_succ_cons, List.drop_zero]
        repeat go_big_quiet_step ((go_at_call 159; exact Calls.quiet_of (rturn_any _ _ _ (by omega) (by omega))))
        refine wpQuiet_nil ?_
        intro _ hw'
        obtain ⟨nr, hw''⟩ := hw'
        subst hw''
        go_wp2_with fail
        go_roundw
        case rel =>
          refine ⟨t2 + 1, k2 + nr, by omega, by rw [← Hm.out]; go_num, ?_⟩
          rw [← HW.out, World.drewN_drewN, store_loc _ _ _ _ _ _ _ Hs.out]
          rw [← H0.out, ← H1.out, ← H2.out, ← H3.out, ← Hm.out]
          rfl
        case measure => simp [intOf]; omega
      · obtain rfl : t2 = 48 := by omega
        go_wp2_with fail
        go_meet
        case rel => exact ⟨k2, rfl⟩
   case rest =>
    obtain ⟨k, rfl⟩ := hcut
    have g0 : ((((w.alloc (.cells zeros64 228)).alloc (.cells (vals (sch2 b 48)) 228))).drewN k).heap[w.heap.size + 1]? = some (.cells (vals (sch2 b 48)) 228 (0, 0)) := heap_alloc2_new _ _ _
    have g1 : ((((w.alloc (.cells zeros64 228)).alloc (.cells (vals (sch2 b 48)) 228))).drewN k).heap[w.heap.size]? = some (.cells zeros64 228 (0, 0)) := heap_alloc2_old _ _ _
    have hbel : Below w.heap.size w ((((w.alloc (.cells zeros64 228)).alloc (.cells (vals (sch2 b 48)) 228))).drewN k) := by
      have := ((Below.refl w.heap.size w).alloc (Nat.le_refl _) (.cells zeros64 228)).alloc (by simp) (.cells (vals (sch2 b 48)) 228)
      exact ⟨this.os, this.tape, this.output, this.size, this.block⟩
    generalize ((((w.alloc (.cells zeros64 228)).alloc (.cells (vals (sch2 b 48)) 228))).drewN k) = W at g0 g1 hbel ⊢
    have hl := sch2_length b 48
    have G0 := Bx.mk g0; have G1 := Bx.mk g1; have HL := Bx.mk hl; have HBE := Bx.mk hbel
    clear g0 g1 hl hbel
    go_upto_region 12 with (fail)
    apply wp_region_lit
    refine wpList_load_row rfl 228 (.tmp 3) rfl (w.heap.size + 1) rfl _ _ _ _ G0.out under64 rfl (by rw [size64, vals_size, HL.out]) ?_
    refine wpList_store_row rfl 228 (.tmp 2) (.tmp 88) rfl w.heap.size (vals (sch2 b 48)) rfl rfl _ _ G1.out (by rw [size64, vals_size, HL.out]) (by rw [vals_size, HL.out]; rfl) (vals_one _) ?_
    refine wpList_nil ?_
    go_wp2_with fail
    refine bodyPost_ret (results_cell_row rfl _ _ w.heap.size _ (vals (sch2 b 48)) _ _ rfl (setRow_heap _ _ _ _ _ _ G1.out) under64 rfl (by rw [size64, vals_size, HL.out])) rfl ⟨rfl, below_setRow HBE.out (Nat.le_refl _) _⟩

set_option maxHeartbeats 400000 in
set_option maxRecDepth 100000 in
theorem rtable_any (w : World) : Calls Tryz.prog 145 #[] w fun e w' => e = .returned (.agg (vals ktab)) ∧ Below w.heap.size w w' := by
  have g1 : (w.alloc (.cells zeros64 228)).heap[w.heap.size]? = some (.cells zeros64 228 (0, 0)) := heap_alloc_new _ _
  have hbel : Below w.heap.size w (w.alloc (.cells zeros64 228)) := (Below.refl _ _).alloc (Nat.le_refl _) _
  have G1 := Bx.mk g1; have HB := Bx.mk hbel; clear g1 hbel
  go_enter Tryz.func145, Tryz.ntmps145
  go_upto_region 1 with (fail)
  change Code.wp _ _ _ _ (w.alloc (.cells zeros64 228))
  generalize w.alloc (.cells zeros64 228) = W at G1 HB ⊢
  apply wp_region_lit
  refine wpList_buildFlatArrTo rfl 228 227 64 _ rfl .u32 ktab _ rfl under64 (by kernel_rfl) (by kernel_rfl) (by kernel_rfl) ?_
  refine wpList_store_row rfl 228 (.tmp 0) (.tmp 1) rfl w.heap.size (vals ktab) rfl rfl _ _ G1.out (by kernel_rfl) (by kernel_rfl) (vals_one _) ?_
  refine wpList_nil ?_
  go_wp2_with fail
  refine bodyPost_ret (results_cell_row rfl _ _ w.heap.size _ (vals ktab) _ _ rfl (setRow_heap _ _ _ _ _ _ G1.out) under64 rfl (by kernel_rfl)) rfl ⟨rfl, below_setRow HB.out (Nat.le_refl _) _⟩
def R0 : R8 := ⟨1779033703, 3144134277, 1013904242, 2773480762, 1359893119, 2600822924, 528734635, 1541459225⟩
set_option maxHeartbeats 400000 in
set_option maxRecDepth 100000 in
theorem rstart_any (w : World) : Calls Tryz.prog 146 #[] w fun e w' => e = .returned (.agg (vals R0.list)) ∧ Below w.heap.size w w' := by
  go_enter Tryz.func146, Tryz.ntmps146
  go_wp2
  refine bodyPost_ret (v := .agg (vals R0.list)) (by simp [results, Tryz.results146, go_sem]; rfl) rfl ⟨rfl, ?_⟩
  exact (Below.refl _ _).alloc (Nat.le_refl _) _
end Go.Proofs.YtgbafjmklefoiaaGreatDoor
end
section
namespace Go.Proofs.YtgbafjmklefoiaaGreatDoor
set_option maxRecDepth 100000
open Go.RowKit
theorem setRow_alloc_new (w : World) (X Y : Array Value) (T : TypeId) (n : Nat) (hn : n = w.heap.size) : (w.alloc (.cells X T)).setRow n Y = w.alloc (.cells Y T) := by
  subst hn
  unfold World.setRow World.alloc
  congr 1
  apply Array.ext_getElem?
  intro k
  by_cases hk : k = w.heap.size
  · subst hk; rw [Array.getElem?_modify]; simp
  · simp [Array.getElem?_modify, Array.getElem?_push, hk, Ne.symm hk]
theorem cell_setRow_at (w : World) (g j : Nat) (old cs : Array Value) (T : TypeId) (k : Nat) (v : Value) (hg : w.heap[g]? = some (.cells old T (0, 0))) (hv : cs[j]? = some v) :
    ((w.setRow g cs).drewN k).cell? ⟨g, j, none⟩ = some v := by
  rw [World.cell?_drewN, cell_of_row _ g j cs T (0, 0) (setRow_heap _ _ _ _ _ _ hg), hv]
theorem cell_row8 (w : World) (g k : Nat) (r : R8) (old : Array Value) (hg : w.heap[g]? = some (.cells old 230 (0, 0))) (j : Nat) (hj : j < 8) :
    ((w.setRow g (vals r.list)).drewN k).cell? ⟨g, j, none⟩ = some (.int .u32 (r.list.getD j 0)) :=
  cell_setRow_at w g j old _ _ k _ hg (vals_get _ _ (by simpa [R8.list] using hj))
theorem cell_row_other (w : World) (g k b j : Nat) (cs : Array Value) (v : Value) (hb : b ≠ g) (h : w.cell? ⟨b, j, none⟩ = some v) : ((w.setRow g cs).drewN k).cell? ⟨b, j, none⟩ = some v := by
  rw [World.cell?_drewN, cell_setRow_other _ _ _ _ (by simpa using hb), h]
theorem heap_row_other (w : World) (g k b : Nat) (cs : Array Value) (o : Option Obj) (hb : b ≠ g) (h : w.heap[b]? = o) : ((w.setRow g cs).drewN k).heap[b]? = o := by
  rw [World.heap_drewN, setRow_other _ _ _ _ hb, h]
theorem setRow_drewN' (w : World) (n g : Nat) (cs : Array Value) : (w.drewN n).setRow g cs = (w.setRow g cs).drewN n := rfl
theorem below_drewN' {B : Nat} {a w : World} (h : Below B a w) (n : Nat) : Below B a (w.drewN n) := ⟨h.os, h.tape, h.output, h.size, h.block⟩
def zeros8 : List Int := [0, 0, 0, 0, 0, 0, 0, 0]
theorem add_at' (s : R8) (b : List Int) (t : Nat) (ht : t < 8) :
    (((blk s b).list.take t ++ (rnds (sched b) s 64).list.drop t).getD t 0 + s.list.getD t 0) % 4294967296 = (blk s b).list.getD t 0 := by
  have h8 : t = 0 ∨ t = 1 ∨ t = 2 ∨ t = 3 ∨ t = 4 ∨ t = 5 ∨ t = 6 ∨ t = 7 := by omega
  unfold blk
  generalize rnds (sched b) s 64 = r
  rcases h8 with rfl | rfl | rfl | rfl | rfl | rfl | rfl | rfl <;> (simp [R8.add, R8.list]; rw [Int.add_comm])
theorem take_set (l r : List Int) (t : Nat) (h : l.length = r.length) (ht : t < l.length) : (l.take t ++ r.drop t).set t (l.getD t 0) = l.take (t + 1) ++ r.drop (t + 1) := by
  apply List.ext_getElem?
  intro j
  by_cases hj : j = t
  · subst hj; simp [List.getElem?_set, List.getElem?_append]; rw [if_pos (by omega), if_pos (by omega)]; simp [List.getElem?_eq_getElem ht]
  · rw [List.getElem?_set_ne (Ne.symm hj)]
    simp [List.getElem?_append, List.getElem?_take]
    by_cases h1 : j < t
    · rw [if_pos (by omega), if_pos (by omega), if_pos (by omega), if_pos (by omega)]
    · rw [if_neg (by omega), if_neg (by omega)]; congr 1; omega
set_option maxHeartbeats 3200000 in
set_option maxRecDepth 100000 in
theorem rblock_any (w : World) (B off cap : Nat) (b : List Int) (s : R8)
    (hb : ∀ i, i < 64 → w.cell? ⟨B, off + i, none⟩ = some (.int .u8 (b.getD i 0))) (hBs : B < w.heap.size) (hcap : 64 ≤ cap) :
    Calls Tryz.prog 147 #[.agg (vals s.list), .slice (some ⟨B, off, none⟩) 64 cap, .agg (vals ktab)] w fun e w' => e = .returned (.agg (vals (blk s b).list)) ∧ Below w.heap.size w w' := by
  go_enter Tryz.func147, Tryz.ntmps147
  have Hb := Bx.mk hb; clear hb
  have u0 : (((w.alloc (.cells (vals s.list) 230)).alloc (.cells (vals ktab) 228)).alloc (.cells (vals zeros8) 230)).heap[w.heap.size]? = some (.cells (vals s.list) 230 (0, 0)) := by rw [Below.heap_alloc _ _ _ (by simp; omega), heap_alloc2_old]
  have u1 : (((w.alloc (.cells (vals s.list) 230)).alloc (.cells (vals ktab) 228)).alloc (.cells (vals zeros8) 230)).heap[w.heap.size + 1]? = some (.cells (vals ktab) 228 (0, 0)) := by rw [Below.heap_alloc _ _ _ (by simp), heap_alloc2_new]
  have u2 : (((w.alloc (.cells (vals s.list) 230)).alloc (.cells (vals ktab) 228)).alloc (.cells (vals zeros8) 230)).heap[w.heap.size + 2]? = some (.cells (vals zeros8) 230 (0, 0)) := heap_alloc2_new (w.alloc _) _ _ |> fun h => by simpa using h
  have us : (((w.alloc (.cells (vals s.list) 230)).alloc (.cells (vals ktab) 228)).alloc (.cells (vals zeros8) 230)).heap.size = w.heap.size + 3 := by simp
  have ub : Below w.heap.size w (((w.alloc (.cells (vals s.list) 230)).alloc (.cells (vals ktab) 228)).alloc (.cells (vals zeros8) 230)) := (((Below.refl _ _).alloc (Nat.le_refl _) _).alloc (by simp) _).alloc (by simp; omega) _
  have U0 := Bx.mk u0; have U1 := Bx.mk u1; have U2 := Bx.mk u2; have US := Bx.mk us; have UB := Bx.mk ub
  clear u0 u1 u2 us ub
  go_upto_region 1 with (fail)
  change Code.wp _ _ _ _ (((w.alloc (.cells (vals s.list) 230)).alloc (.cells (vals ktab) 228)).alloc (.cells (vals zeros8) 230))
  generalize (((w.alloc (.cells (vals s.list) 230)).alloc (.cells (vals ktab) 228)).alloc (.cells (vals zeros8) 230)) = U at U0 U1 U2 US UB ⊢
  have hc := rsched_any U B off cap b (fun i hi => (Below.cell (p := ⟨B, off + i, none⟩) UB.out hBs).trans (Hb.out i hi)) (by rw [US.out]; omega) hcap
  have HC := Bx.mk hc; clear hc
  go_wp2_with fail
  refine HC.out.mono ?_
  rintro e w1 ⟨rfl, hb1⟩
  have HB1 := Bx.mk hb1; clear hb1
  have hsi : (Tryz.prog.info? 228).map (·.size) = some (vals (sched b)).size := by rw [size64, vals_size, sched, sch2_length]
  have hso : zeros64.size = (vals (sched b)).size := by rw [vals_size, sched, sch2_length]; rfl
  have HSI := Bx.mk hsi; have HSO := Bx.mk hso; clear hsi hso
  go_upto_region 2 with (refine wpList_store_row rfl 228 (.tmp 7) (.tmp 14) rfl w1.heap.size (vals (sched b)) rfl rfl _ zeros64 (heap_alloc_new _ _) HSI.out HSO.out (vals_one _) ?_; rw [setRow_alloc_new _ _ _ _ _ rfl]; generalize hX : w1.alloc (.cells (vals (sched b)) 228) = X; have HX := Bx.mk hX; clear hX)
  have hM : w.heap.size + 3 ≤ w1.heap.size := by have := HB1.out.size; rw [US.out] at this; exact this
  have x0 := (Below.heap_alloc w1 (.cells (vals (sched b)) 228) w.heap.size (by omega)).trans ((HB1.out.block _ (by rw [US.out]; omega)).trans U0.out)
  have x1 := (Below.heap_alloc w1 (.cells (vals (sched b)) 228) (w.heap.size + 1) (by omega)).trans ((HB1.out.block _ (by rw [US.out]; omega)).trans U1.out)
  have x2 := (Below.heap_alloc w1 (.cells (vals (sched b)) 228) (w.heap.size + 2) (by omega)).trans ((HB1.out.block _ (by rw [US.out]; omega)).trans U2.out)
  have x3 := heap_alloc_new w1 (.cells (vals (sched b)) 228)
  have xs : (w1.alloc (.cells (vals (sched b)) 228)).heap.size = w1.heap.size + 1 := by simp
  have xb : Below w.heap.size w (w1.alloc (.cells (vals (sched b)) 228)) := (UB.out.trans (HB1.out.mono (by rw [US.out]; omega))).alloc (by omega) _
  rw [HX.out] at x0 x1 x2 x3 xs xb
  generalize w1.heap.size = M at hM x3 xs ⊢
  clear HX
  have X0 := Bx.mk x0; have X1 := Bx.mk x1; have X2 := Bx.mk x2; have X3 := Bx.mk x3; have XS := Bx.mk xs; have XB := Bx.mk xb
  clear x0 x1 x2 x3 xs xb HB1 U0 U1 U2 US UB Hb
  apply wp_region_lit
  refine wpList_load_row rfl 230 (.tmp 3) rfl w.heap.size rfl _ _ _ _ X0.out under8 rfl (by rw [size8, vals_size]; rfl) ?_
  have hsi : (Tryz.prog.info? 230).map (·.size) = some (vals s.list).size := by rw [size8, vals_size]; rfl
  have hso : (vals zeros8).size = (vals s.list).size := by rw [vals_size, vals_size]; rfl
  have HSI := Bx.mk hsi; have HSO := Bx.mk hso; clear hsi hso
  go_upto_region 3 with (refine wpList_store_row rfl 230 (.tmp 8) (.tmp 15) rfl X.heap.size (vals s.list) rfl rfl _ (vals zeros8) (heap_alloc_new _ _) HSI.out HSO.out (vals_one _) ?_; rw [setRow_alloc_new _ _ _ _ _ rfl])
  have y0 := (Below.heap_alloc X (.cells (vals s.list) 230) w.heap.size (by rw [XS.out]; omega)).trans X0.out
  have y1 := (Below.heap_alloc X (.cells (vals s.list) 230) (w.heap.size + 1) (by rw [XS.out]; omega)).trans X1.out
  have y2 := (Below.heap_alloc X (.cells (vals s.list) 230) (w.heap.size + 2) (by rw [XS.out]; omega)).trans X2.out
  have y3 := (Below.heap_alloc X (.cells (vals s.list) 230) M (by rw [XS.out]; omega)).trans X3.out
  have y4 := heap_alloc_new X (.cells (vals s.list) 230)
  rw [XS.out] at y4
  have yb : Below w.heap.size w (X.alloc (.cells (vals s.list) 230)) := XB.out.alloc (by rw [XS.out]; omega) _
  rw [XS.out]
  generalize X.alloc (.cells (vals s.list) 230) = V0 at y0 y1 y2 y3 y4 yb ⊢
  have g0 := Bx.mk y0; have g1 := Bx.mk y1; have g2 := Bx.mk y2; have g3 := Bx.mk y3; have g4 := Bx.mk y4; have gb := Bx.mk yb
  clear y0 y1 y2 y3 y4 yb X0 X1 X2 X3 XS XB
  clear X
  go_upto_block 0 with (fail)
  go_cut [] (fun wc => ∃ k : Nat, wc = ((V0.setRow (M + 1) (vals ((rnds (sched b) s 64).list))).drewN k))
  case first =>
    go_wp2_with fail
    go_loopw [9] (fun i wr => ∃ (t k : Nat), t ≤ 64 ∧ i = .int .i64 t ∧ wr = ((V0.setRow (M + 1) (vals ((rnds (sched b) s t).list))).drewN k)) (fun i _ => 64 - (intOf i).toNat)
    case atStart =>
      exact ⟨0, 0, by omega, rfl, (setRow_self V0 (M + 1) _ _ _ g4.out).symm⟩
    case round =>
      obtain ⟨t3, k3, ht3, rfl, rfl⟩ := hrel
      by_cases hlt3 : t3 < 64
      · generalize hr : rnds (sched b) s t3 = r
        obtain ⟨ra, rb, rc, rd, re, rf, rg, rh⟩ := r
        have HR := Bx.mk hr; clear hr
        have e0 := cell_row_other V0 (M + 1) k3 M t3 (vals (R8.list ⟨ra, rb, rc, rd, re, rf, rg, rh⟩)) _ (by omega) (cell_of_vals g3.out t3 (by rw [sched, sch2_length]; omega))
        have e1 := cell_row_other V0 (M + 1) k3 (w.heap.size + 1) t3 (vals (R8.list ⟨ra, rb, rc, rd, re, rf, rg, rh⟩)) _ (by omega) (cell_of_vals g1.out t3 (by simp [ktab]; omega))
        have d0 := cell_row8 V0 (M + 1) k3 ⟨ra, rb, rc, rd, re, rf, rg, rh⟩ _ g4.out 0 (by decide)
        have d1 := cell_row8 V0 (M + 1) k3 ⟨ra, rb, rc, rd, re, rf, rg, rh⟩ _ g4.out 1 (by decide)
        have d2 := cell_row8 V0 (M + 1) k3 ⟨ra, rb, rc, rd, re, rf, rg, rh⟩ _ g4.out 2 (by decide)
        have d3 := cell_row8 V0 (M + 1) k3 ⟨ra, rb, rc, rd, re, rf, rg, rh⟩ _ g4.out 3 (by decide)
        have d4 := cell_row8 V0 (M + 1) k3 ⟨ra, rb, rc, rd, re, rf, rg, rh⟩ _ g4.out 4 (by decide)
        have d5 := cell_row8 V0 (M + 1) k3 ⟨ra, rb, rc, rd, re, rf, rg, rh⟩ _ g4.out 5 (by decide)
        have d6 := cell_row8 V0 (M + 1) k3 ⟨ra, rb, rc, rd, re, rf, rg, rh⟩ _ g4.out 6 (by decide)
        have d7 := cell_row8 V0 (M + 1) k3 ⟨ra, rb, rc, rd, re, rf, rg, rh⟩ _ g4.out 7 (by decide)
        generalize hx0 : (sched b).getD t3 0 = wt at e0
        generalize hx1 : ktab.getD t3 0 = kt at e1
        have H0 := Bx.mk hx0; have H1 := Bx.mk hx1; clear hx0 hx1
        generalize hY : ((V0.setRow (M + 1) (vals (R8.list ⟨ra, rb, rc, rd, re, rf, rg, rh⟩))).drewN k3) = Y at d0 d1 d2 d3 d4 d5 d6 d7 e0 e1 ⊢
        have HY := Bx.mk hY; clear hY
        dsimp only [R8.list, List.getD, List.getElem?_cons_zero, List.getElem?_cons_succ, Option.getD_some] at d0 d1 d2 d3 d4 d5 d6 d7
        go_upto_region 6 with (fail)
        go_cut [10] (fun v wc => v = .int .u32 (rndX kt wt ⟨ra, rb, rc, rd, re, rf, rg, rh⟩) ∧ ∃ k, wc = Y.drewN k)
        case first =>
          go_quiet ((go_at_call 159; exact Calls.quiet_of (rturn_any _ _ _ (by omega) (by omega))))
          go_wp2_with fail
          go_meet
          case rel => exact ⟨rfl, _, rfl⟩
        case rest =>
          obtain ⟨rfl, k6, rfl⟩ := hcut
          have f0 : (Y.drewN k6).cell? ⟨M + 1, 0, none⟩ = some (.int .u32 ra) := d0
          have f1 : (Y.drewN k6).cell? ⟨M + 1, 1, none⟩ = some (.int .u32 rb) := d1
          have f2 : (Y.drewN k6).cell? ⟨M + 1, 2, none⟩ = some (.int .u32 rc) := d2
          have f3 : (Y.drewN k6).cell? ⟨M + 1, 3, none⟩ = some (.int .u32 rd) := d3
          have f4 : (Y.drewN k6).cell? ⟨M + 1, 4, none⟩ = some (.int .u32 re) := d4
          have f5 : (Y.drewN k6).cell? ⟨M + 1, 5, none⟩ = some (.int .u32 rf) := d5
          have f6 : (Y.drewN k6).cell? ⟨M + 1, 6, none⟩ = some (.int .u32 rg) := d6
          have f7 : (Y.drewN k6).cell? ⟨M + 1, 7, none⟩ = some (.int .u32 rh) := d7
          clear d0 d1 d2 d3 d4 d5 d6 d7
          generalize hY2 : Y.drewN k6 = Y2 at f0 f1 f2 f3 f4 f5 f6 f7 ⊢
          have HY2 := Bx.mk hY2; clear hY2
          generalize hxx : rndX kt wt ⟨ra, rb, rc, rd, re, rf, rg, rh⟩ = xx
          have HX := Bx.mk hxx; clear hxx
          go_upto_region 7 with (fail)
          go_cut [11] (fun v wc => v = .int .u32 (rndY ⟨ra, rb, rc, rd, re, rf, rg, rh⟩) ∧ ∃ k, wc = Y2.drewN k)
          case first =>
            go_quiet ((go_at_call 159; exact Calls.quiet_of (rturn_any _ _ _ (by omega) (by omega))))
            go_wp2_with fail
            go_meet
            case rel => exact ⟨rfl, _, rfl⟩
          case rest =>
           obtain ⟨rfl, k7, rfl⟩ := hcut
           generalize hyy : rndY ⟨ra, rb, rc, rd, re, rf, rg, rh⟩ = yy
           have HYY := Bx.mk hyy; clear hyy
           have hq : (Y2.drewN k7).heap[M + 1]? = some (.cells (vals (R8.list ⟨ra, rb, rc, rd, re, rf, rg, rh⟩)) 230 (0, 0)) := by
            rw [← HY2.out, ← HY.out]
            exact setRow_heap _ _ _ _ _ _ g4.out
           have HQ := Bx.mk hq; clear hq
           have hsi : (Tryz.prog.info? 230).map (·.size) = some (vals [(xx + yy) % 4294967296, ra, rb, rc, (rd + xx) % 4294967296, re, rf, rg]).size := by rw [size8, vals_size]; rfl
           have hso : (vals (R8.list ⟨ra, rb, rc, rd, re, rf, rg, rh⟩)).size = (vals [(xx + yy) % 4294967296, ra, rb, rc, (rd + xx) % 4294967296, re, rf, rg]).size := by rw [vals_size, vals_size]; rfl
           have HSI := Bx.mk hsi; have HSO := Bx.mk hso; clear hsi hso
           go_wp2_with (refine wpList_store_row rfl 230 (.tmp 8) (.tmp 103) rfl (M + 1) (vals [(xx + yy) % 4294967296, ra, rb, rc, (rd + xx) % 4294967296, re, rf, rg]) rfl rfl _ _ HQ.out HSI.out HSO.out (vals_one _) ?_)
           go_roundw
           case rel =>
             refine ⟨t3 + 1, k3 + (k6 + k7), by omega, by go_num, ?_⟩
             have hs : (rnds (sched b) s (t3 + 1)).list = [(xx + yy) % 4294967296, ra, rb, rc, (rd + xx) % 4294967296, re, rf, rg] := by
               have : rnds (sched b) s (t3 + 1) = rnd kt wt ⟨ra, rb, rc, rd, re, rf, rg, rh⟩ := by rw [← H0.out, ← H1.out, ← HR.out]; rfl
               rw [this, ← HX.out, ← HYY.out]; rfl
             rw [hs, ← HY2.out, ← HY.out, World.drewN_drewN, World.drewN_drewN, setRow_drewN', setRow_setRow]
           case measure => simp [intOf]; omega
      · obtain rfl : t3 = 64 := by omega
        go_wp2_with fail
        go_meet
        case rel => exact ⟨k3, rfl⟩
  case rest =>
    obtain ⟨k, rfl⟩ := hcut
    generalize hr : rnds (sched b) s 64 = r
    have HR := Bx.mk hr; clear hr
    go_upto_block 2 with (fail)
    go_cut [] (fun wc => ∃ k : Nat, wc = ((V0.setRow (M + 1) (vals ((blk s b).list))).drewN k))
    case first =>
      go_wp2_with fail
      go_loopw [12] (fun i wr => ∃ (t k : Nat), t ≤ 8 ∧ i = .int .i64 t ∧ wr = ((V0.setRow (M + 1) (vals ((blk s b).list.take t ++ r.list.drop t))).drewN k)) (fun i _ => 8 - (intOf i).toNat)
      case atStart => exact ⟨0, k, by omega, rfl, rfl⟩
      case round =>
        obtain ⟨t4, k4, ht4, rfl, rfl⟩ := hrel
        by_cases hlt4 : t4 < 8
        · have hlen : ((blk s b).list.take t4 ++ r.list.drop t4).length = 8 := by simp [R8.list]; omega
          have d0 := cell_setRow_at V0 (M + 1) t4 _ _ 230 k4 _ g4.out (vals_get ((blk s b).list.take t4 ++ r.list.drop t4) t4 (by omega))
          have d1 := cell_row_other V0 (M + 1) k4 w.heap.size t4 (vals ((blk s b).list.take t4 ++ r.list.drop t4)) _ (by omega) (cell_of_vals g0.out t4 (by simpa [R8.list] using hlt4))
          have hfz : ((V0.setRow (M + 1) (vals ((blk s b).list.take t4 ++ r.list.drop t4))).drewN k4).frozen? ⟨M + 1, t4, none⟩ = false := by
            rw [World.frozen?_drewN]; exact frozen_of_row _ _ _ _ _ (setRow_heap _ _ _ _ _ _ g4.out)
          clear hlen
          generalize hx0 : ((blk s b).list.take t4 ++ r.list.drop t4).getD t4 0 = x0 at d0
          generalize hx1 : s.list.getD t4 0 = x1 at d1
          have H0 := Bx.mk hx0; have H1 := Bx.mk hx1; clear hx0 hx1
          generalize hY : ((V0.setRow (M + 1) (vals ((blk s b).list.take t4 ++ r.list.drop t4))).drewN k4) = Y at d0 d1 hfz ⊢
          have HY := Bx.mk hY; clear hY
          go_wp2_with fail
          refine wp_region_quiet_tail (C := fun w' => ∃ n, w' = Y.drewN n) 9 (by kernel_rfl) (by kernel_rfl) ⟨1, rfl⟩ ?_
          simp only [List.take_succ_cons, List.take_zero, List.drop_succ_cons, List.drop_zero]
          repeat go_big_quiet_step (fail)
          refine wpQuiet_nil ?_
          intro _ hw'
          obtain ⟨nr, hw''⟩ := hw'
          subst hw''
          go_wp2_with fail
          go_roundw
          case rel =>
            refine ⟨t4 + 1, k4 + nr, by omega, by go_num, ?_⟩
            have he : (x0 + x1) % 4294967296 = (blk s b).list.getD t4 0 := by
              rw [← H0.out, ← H1.out, ← HR.out]
              exact add_at' s b t4 hlt4
            rw [he, ← HY.out, World.drewN_drewN, setCell_drewN', setCell_eq_setRow _ _ _ _ _ _ _ (setRow_heap _ _ _ _ _ _ g4.out), setRow_setRow, vals_set, take_set (blk s b).list r.list t4 rfl (by simpa [R8.list] using hlt4)]
          case measure => simp [intOf]; omega
        · obtain rfl : t4 = 8 := by omega
          go_wp2_with fail
          go_meet
          case rel => exact ⟨k4, rfl⟩
    case rest =>
      obtain ⟨k, rfl⟩ := hcut
      have q0 : ((V0.setRow (M + 1) (vals ((blk s b).list))).drewN k).heap[M + 1]? = some (.cells (vals (blk s b).list) 230 (0, 0)) := setRow_heap _ _ _ _ _ _ g4.out
      have q1 : ((V0.setRow (M + 1) (vals ((blk s b).list))).drewN k).heap[w.heap.size + 2]? = some (.cells (vals zeros8) 230 (0, 0)) := heap_row_other _ _ _ _ _ _ (by omega) g2.out
      have qb : Below w.heap.size w ((V0.setRow (M + 1) (vals ((blk s b).list))).drewN k) := below_drewN' (below_setRow gb.out (by omega) _) k
      generalize ((V0.setRow (M + 1) (vals ((blk s b).list))).drewN k) = Y at q0 q1 qb ⊢
      have Q0 := Bx.mk q0; have Q1 := Bx.mk q1; have QB := Bx.mk qb; clear q0 q1 qb
      go_upto_region 13 with (fail)
      apply wp_region_lit
      refine wpList_load_row rfl 230 (.tmp 8) rfl (M + 1) rfl _ _ _ _ Q0.out under8 rfl (by rw [size8, vals_size]; rfl) ?_
      refine wpList_store_row rfl 230 (.tmp 6) (.tmp 117) rfl (w.heap.size + 2) (vals (blk s b).list) rfl rfl _ _ Q1.out (by rw [size8, vals_size]; rfl) (by rw [vals_size, vals_size]; rfl) (vals_one _) ?_
      refine wpList_nil ?_
      go_wp2_with fail
      refine bodyPost_ret (results_cell_row rfl _ _ (w.heap.size + 2) _ (vals (blk s b).list) _ _ rfl (setRow_heap _ _ _ _ _ _ Q1.out) under8 rfl (by rw [size8, vals_size]; rfl)) rfl ⟨rfl, below_setRow QB.out (by omega) _⟩
end Go.Proofs.YtgbafjmklefoiaaGreatDoor
end
