/- The document's cache of chapter 13: first, New. -/
import Derived.Test.YtdepmjgibenejaaGreatDoorRcA
import Derived.Test.YtdepmjgibenejaaGreatDoorOwn9
import Derived.Deep.Upon
namespace Go.Proofs.YtdepmjgibenejaaGreatDoor
set_option maxRecDepth 100000
open Go.RowKit
/-- a new row of one element, which nothing writes -/
def NewG (own : Nat → Option Nat) (w : World) (v : Value) (base : Nat) (e : TypeId) (X : Array Value) : Prop := ∃ g, v = .slice (some ⟨g, 0, none⟩) 1 1 ∧ own g = none ∧ base ≤ g ∧ w.heap[g]? = some (.cells X e (0, 0))
theorem NewG.stable {mk own own' : Nat → Option Nat} {w w' : World} {i base : Nat} {v : Value} {e : TypeId} {X : Array Value} (h : NewG own w v base e X) (r : Rel mk i own w own' w') : NewG own' w' v base e X := by
  obtain ⟨g, ev, h1, h2, h3⟩ := h
  have hg := (Array.getElem?_eq_some_iff.1 h3).1
  exact ⟨g, ev, (r.owns g hg).trans h1, h2, (r.keep g hg (by rw [h1]; simp)).trans h3⟩
/-- a row of one's own that nothing of the region writes -/
def RowF (own : Nat → Option Nat) (w : World) (v : Value) (base : Nat) (e : TypeId) (size n : Nat) (xs : List Value) : Prop := w.ownsRow base e size v n xs ∧ ∀ k, v.ownBlock = some k → own k = none
theorem RowF.stable {mk own own' : Nat → Option Nat} {w w' : World} {i base : Nat} {v : Value} {e : TypeId} {size n : Nat} {xs : List Value} (h : RowF own w v base e size n xs) (r : Rel mk i own w own' w') : RowF own' w' v base e size n xs :=
  ⟨ownsRow_keep' h.1 fun g hg => r.keep g (ownsRow_lt h.1 g hg) (by rw [h.2 g hg]; simp), fun k hk => (r.owns k (ownsRow_lt h.1 k hk)).trans (h.2 k hk)⟩
/-- append of a slice that came from memory to a new row of one -/
theorem showsO_newAppend {mk own0 own : Nat → Option Nat} {w0 w : World} {P : Program} {Q : Exit → Act → World → Prop} {V : Nat → Value → (Nat → Option Nat) → World → Prop} {i : Nat} {o : Oper} {a : Act} (hs0 : Since own0 w0 own w) {d : Nat} (hd : o.dst = some d) (s x : Operand) (t : TypeId)
    (ho : o.op = .call { callee := .builtin .append, args := #[s, x], argTypes := #[t, t] })
    (base : Nat) (e : TypeId) (i' : TypeInfo) (z : Value) (size bytes : Nat) (ht : P.underlying t = some (.slice e)) (hi : P.info? e = some i') (hz : i'.zero = some z)
    (hsize : i'.size = size) (hby : i'.bytes = bytes) (hzs : z.cells.size = size) (hsz : 0 < size) (hbase : base ≤ w.heap.size)
    (X : Array Value) (hX : X.size = size) (hnew : NewG own w (a.eval s) base e X)
    (xa : Option Addr) (m c : Nat) (news : List Value) (hx : a.eval x = .slice xa m c) (hl : news.length = m * size)
    (hnews : m ≠ 0 → ∃ ad, xa = some ad ∧ ∀ j u, news[j]? = some u → w.cell? (ad.add j) = some u)
    (h63 : 1 + m ≤ maxLen) (hbytes : (1 + m) * bytes ≤ 140737488355328)
    (hv : ∀ v' w' own', RowF own' w' v' base e size (1 + m) (X.toList ++ news) → V i v' own' w') : ShowsO mk P Q V i o a own w := by
  obtain ⟨g, hs, hg0, hgb, hg⟩ := hnew
  have hXl : X.toList.length = 1 * size := by rw [Array.length_toList, hX, Nat.one_mul]
  by_cases hm : m = 0
  · subst hm
    have hn : news = [] := List.length_eq_zero_iff.1 (by rw [hl, Nat.zero_mul])
    subst hn
    have hsrc : Go.Src P i'.size t (.slice xa 0 c) 0 [] w := by
      cases xa with
      | none => exact Go.Src.ofNil w ht c
      | some ad => exact Go.Src.ofSlice w ht ad 0 c [] (by simp) (fun j u h => by simp at h) (fun u h => by cases h)
    have hr := run_append_nothing (P := P) w t t o.type e i' ht hi (some ⟨g, 0, none⟩) 1 1 (Nat.le_refl _) (.slice xa 0 c) hsrc
    refine showsO_run hd (.slice (some ⟨g, 0, none⟩) 1 1) (w' := w) ?_ own (Rel.same mk i hs0) (hv _ _ _ ⟨⟨by simp [hX], .inr ⟨g, 1, X, rfl, hgb, hg, by decide, by decide, by rw [hX, Nat.one_mul], ?_⟩⟩, fun k hk => ?_⟩)
    · unfold execOp
      simp only [ho, resolve, invoke, builtin, Sem.run_bind, Sem.run_pure, Result.andThen_ok, List.map_toArray, List.map_cons, List.map_nil, hs, hx, hr]
    · rw [List.append_nil, List.take_of_length_le (by rw [hXl]; simp)]
    · obtain rfl : g = k := by simpa [Value.ownBlock] using hk
      exact hg0
  · obtain ⟨ad, rfl, hnc⟩ := hnews hm
    obtain ⟨v', w', hr, h2, h3⟩ := run_append_arg_grows (P := P) w t o.type e i' z size bytes ht hi hz hsize hby hzs hsz ⟨g, 0, none⟩ 1 1 X.toList hXl (fun j u hu => by
      rw [Addr.add_mid, Nat.zero_add]
      rw [Array.getElem?_toList] at hu
      exact er_cellAt hg j u hu) ad m c news hl hnc (by omega) h63 hbytes
    have hb : Below w.heap.size w w' := ⟨h3.os, h3.tape, h3.output, h3.size, fun k hk => h3.block k hk (by simp)⟩
    refine showsO_run hd v' (w' := w') ?_ own (Rel.below mk i hs0 hb) (hv _ _ _ ⟨ownsRow_mono h2 hbase, fun k hk => hs0.top k (ownsRow_ge h2 k hk)⟩)
    unfold execOp
    simp only [ho, resolve, invoke, builtin, Sem.run_bind, Sem.run_pure, Result.andThen_ok, List.map_toArray, List.map_cons, List.map_nil, hs, hx, hr]
theorem bs_RI (w : World) (x y : Int) : (Instr.buildSlice 49 1 #[(0, .agg #[.int .i64 x, .int .i64 y])]).run Tryz.prog w = .ok (.slice (some ⟨w.heap.size, 0, none⟩) 1 1) (w.alloc (.cells #[.int .i64 x, .int .i64 y] 84)) := by kernel_rfl
theorem run_bs_RI {o : Oper} {a : Act} (w : World) (x : Operand) (ho : o.op = .buildSlice 49 1 #[(0, x)]) (k v : Int) (hx : a.eval x = .agg #[.int .i64 k, .int .i64 v]) :
    (execOp a.eval o).run Tryz.prog w = .ok (.value (.slice (some ⟨w.heap.size, 0, none⟩) 1 1)) (w.alloc (.cells #[.int .i64 k, .int .i64 v] 84)) := by
  have hr := bs_RI w k v
  unfold execOp
  simp only [ho, List.map_toArray, List.map_cons, List.map_nil, hx, Sem.run_bind, hr, Result.andThen_ok, Sem.run_pure]
theorem itc_cons (k v : Int) (es : List (Int × Int)) : ((#[.int .i64 k, .int .i64 v] : Array Value).toList ++ itc es) = itc ((k, v) :: es) := rfl
def StF (own : Nat → Option Nat) (w : World) (rc most n : Nat) (kk vv : Int) (es : List (Int × Int)) (B2 : Nat) : Prop := ∃ s1, OutV own w rc 10 51 #[.int .i64 (most : Int), s1] ∧ RowN own w s1 B2 84 2 (1 + n) ((#[.int .i64 kk, .int .i64 vv] : Array Value).toList ++ itc es)
def VFi (rc most n : Nat) (kk vv : Int) (es : List (Int × Int)) (a : Option Addr) (c B2 _N : Nat) (oi : Nat) (v : Value) (own : Nat → Option Nat) (w : World) : Prop :=
  match oi with
  | 0 => v = .pointer (some ⟨rc, 0, none⟩)
  | 1 => v = .agg #[.int .i64 kk, .int .i64 vv]
  | 2 => NewG own w v B2 84 #[.int .i64 kk, .int .i64 vv]
  | 3 => v = .pointer (some ⟨rc, 0, none⟩)
  | 4 => v = .pointer (some ⟨rc, 0, none⟩)
  | 5 => v = .pointer (some ⟨rc, 1, none⟩)
  | 6 => v = .slice a n c
  | 7 => RowN own w v B2 84 2 (1 + n) ((#[.int .i64 kk, .int .i64 vv] : Array Value).toList ++ itc es)
  | 8 => v = .pointer (some ⟨rc, 0, none⟩)
  | 9 => v = .pointer (some ⟨rc, 1, none⟩)
  | 10 => StF own w rc most n kk vv es B2
  | _ => True
def VFimk : Nat → Option Nat := fun _ => none
theorem VFi_mono (rc most n : Nat) (kk vv : Int) (es : List (Int × Int)) (a : Option Addr) (c B2 N : Nat) (oi oj : Nat) (v : Value) (own : Nat → Option Nat) (w : World) (own' : Nat → Option Nat) (w' : World) (hij : oi ≠ oj)   (h : VFi rc most n kk vv es a c B2 N oj v own w) (r : Rel VFimk oi own w own' w') : VFi rc most n kk vv es a c B2 N oj v own' w' := by
  unfold VFi at h ⊢
  split at h
  · exact h
  · exact h
  · exact h.stable r
  · exact h
  · exact h
  · exact h
  · exact h
  · exact h.stable r
  · exact h
  · exact h
  · obtain ⟨s1, h1, h2⟩ := h; exact ⟨s1, h1.stable r hij, h2.stable r⟩
  · trivial

set_option maxHeartbeats 1600000 in
theorem first13_any (base : Nat) (w : World) (rc most : Nat) (es : List (Int × Int)) (L : Value) (h : RfM base w rc most es L) (hbase : base ≤ w.heap.size) (hlen : es.length ≤ 2000) (kk vv : Int) :
    Calls Tryz.prog 25 #[.pointer (some ⟨rc, 0, none⟩), .agg #[.int .i64 kk, .int .i64 vv]] w fun e w' => e = .returned (.tuple #[]) ∧ ∃ L', RfM base w' rc most ((kk, vv) :: es) L' ∧ Keep (fun k => k = rc) w w' ∧ ∀ k, L'.ownBlock = some k → w.heap.size ≤ k := by
  obtain ⟨a, c, hs, -, -, -⟩ := own_shapeK h.row
  obtain ⟨n, hn⟩ : ∃ n, n = es.length := ⟨_, rfl⟩
  rw [← hn] at hs
  subst hs
  have kb := er_al (Below.refl w.heap.size w) (.cells #[.int .i64 kk, .int .i64 vv] 84)
  have h0 := h.below kb
  have x0 := heap_alloc_new w (.cells #[.int .i64 kk, .int .i64 vv] 84)
  have RN : rc < w.heap.size := (Array.getElem?_eq_some_iff.1 h.hb).1
  obtain ⟨i0, hi, hz0, hz1, hz2⟩ := info_partsB infoRI
  have RI := Bx.mk (And.intro hi (And.intro hz0 (And.intro hz1 hz2)))
  have HN := Bx.mk hn; have HBS := Bx.mk hbase; have RLT := Bx.mk RN
  have Q1 := Bx.mk (show 1 + n ≤ maxLen by unfold maxLen; omega); have Q2 := Bx.mk (show (1 + n) * 16 ≤ 140737488355328 by omega)
  have LN : Bx ((itc es).length = n * 2) := ⟨by rw [itc_len, hn]⟩
  clear h hbase hlen hn hi hz0 hz1 hz2 RN
  go_enter Tryz.func25, Tryz.ntmps25
  go_upto_region 1 with (fail)
  change Code.wp _ _ _ _ (w.alloc (.cells #[.int .i64 kk, .int .i64 vv] 84))
  generalize w.alloc (.cells #[.int .i64 kk, .int .i64 vv] 84) = W at kb h0 x0 ⊢
  obtain ⟨N, hN⟩ : ∃ N, N = w.heap.size := ⟨_, rfl⟩
  rw [← hN] at x0 ⊢
  have KB := Bx.mk kb; have M := Bx.mk h0; have X0 := Bx.mk x0; have HNN := Bx.mk hN
  have XL := Bx.mk (Array.getElem?_eq_some_iff.1 x0).1
  have NR := Bx.mk (show N ≠ rc by have := RLT.out; omega)
  have MB := Bx.mk h0.hb
  have RW := Bx.mk (Array.getElem?_eq_some_iff.1 h0.hb).1
  have ALT := Bx.mk (fun g (hg : (Value.slice a n c).ownBlock = some g) => ownsRow_lt h0.row g hg)
  have ANR := Bx.mk (fun g (hg : (Value.slice a n c).ownBlock = some g) => h0.apart g hg)
  have NEW : Bx (∀ u : World, (∀ g, (Value.slice a n c).ownBlock = some g → u.heap[g]? = W.heap[g]?) → n ≠ 0 → ∃ ad, a = some ad ∧ ∀ j x, (itc es)[j]? = some x → u.cell? (ad.add j) = some x) := ⟨fun u hu hn0 => by
    have hrow := M.out.row
    rw [← HN.out] at hrow
    rcases id hrow.2 with ⟨e0, hz⟩ | ⟨g, c', cur, e1, _⟩
    · exact absurd hz hn0
    · cases e1
      obtain ⟨cur, hG⟩ := rowG_of hrow
      refine ⟨_, rfl, fun j x hx => ?_⟩
      rw [Addr.add_mid, Nat.zero_add]
      exact (hG.kept (hu g rfl)).cell hx⟩
  clear kb h0 x0 hN
  refine wp_region_own8 (n := 14) VFimk (fun k => if k = rc then some 10 else none) (VFi rc most n kk vv es a c (W.heap.size) N) (by kernel_rfl) (by kernel_rfl) rfl (fun k hk => if_neg (by have := RW.out; omega)) (fun j i hj _ => by cases hj) ?_ ?_ ?_
  · exact fun oi oj v own w own' w' hij _ h r => VFi_mono rc most n kk vv es a c (W.heap.size) N oi oj v own w own' w' hij h r
  · intro oi o hi f u own hsame hsn hfr hlate hkeep8 hdep
    have hkeep := hkeep8 _ (.inl rfl)
    match oi, hi with
    | 0, hi =>
      cases (show some _ = some o from hi)
      have e0 : f.tmps.getD 0 undef = .pointer (some ⟨rc, 0, none⟩) := hsame.slot 0 (fun i o h => invB2_not 0 (by kernel_rfl) h)
      clear hdep hsame hi hlate hfr hkeep
      exact .inl ⟨wanted_none rfl, showsO_move hsn rfl _ rfl e0⟩
    | 1, hi =>
      cases (show some _ = some o from hi)
      have e3 : f.tmps.getD 3 undef = .pointer (some ⟨N, 0, none⟩) := hsame.slot 3 (fun i o h => invB2_not 3 (by kernel_rfl) h)
      clear hdep hsame hi hlate hfr hkeep
      exact .inl ⟨wanted_none rfl, showsO_row hsn rfl 84 (.tmp 3) rfl N e3 #[.int .i64 kk, .int .i64 vv] ((hsn.keep N XL.out (if_neg NR.out)).trans X0.out) Tryz.underlying84 rfl sizeRI rfl⟩
    | 2, hi =>
      cases (show some _ = some o from hi)
      have e5 : (f.tmps.getD 5 undef) = .agg #[.int .i64 kk, .int .i64 vv] := depO (V := (VFi rc most n kk vv es a c (W.heap.size) N)) hdep 1 5 (by kernel_rfl) (by kernel_rfl)
      clear hdep hsame hi hlate hfr hkeep
      exact .inl ⟨wanted_none rfl, showsO_run rfl (.slice (some ⟨u.heap.size, 0, none⟩) 1 1) (w' := u.alloc (.cells #[.int .i64 kk, .int .i64 vv] 84)) (run_bs_RI u (.tmp 5) rfl kk vv e5) own (Rel.below VFimk 2 hsn (er_al (Below.refl _ _) _)) ⟨_, rfl, hsn.top _ (Nat.le_refl _), hsn.size, heap_alloc_new _ _⟩⟩
    | 3, hi =>
      cases (show some _ = some o from hi)
      have e0 : f.tmps.getD 0 undef = .pointer (some ⟨rc, 0, none⟩) := hsame.slot 0 (fun i o h => invB2_not 0 (by kernel_rfl) h)
      clear hdep hsame hi hlate hfr hkeep
      exact .inl ⟨wanted_none rfl, showsO_move hsn rfl _ rfl e0⟩
    | 4, hi =>
      cases (show some _ = some o from hi)
      have e7 : (f.tmps.getD 7 undef) = .pointer (some ⟨rc, 0, none⟩) := depO (V := (VFi rc most n kk vv es a c (W.heap.size) N)) hdep 3 7 (by kernel_rfl) (by kernel_rfl)
      clear hdep hsame hi hlate hfr hkeep
      exact .inl ⟨wanted_none rfl, showsO_pure hsn rfl (.pointer (some ⟨rc, 0, none⟩)) (by simp only [execOp, Act.eval]; go_simp) rfl⟩
    | 5, hi =>
      cases (show some _ = some o from hi)
      have e8 : (f.tmps.getD 8 undef) = .pointer (some ⟨rc, 0, none⟩) := depO (V := (VFi rc most n kk vv es a c (W.heap.size) N)) hdep 4 8 (by kernel_rfl) (by kernel_rfl)
      clear hdep hsame hi hlate hfr hkeep
      exact .inl ⟨wanted_none rfl, showsO_pure hsn rfl (.pointer (some ⟨rc, 1, none⟩)) (by simp only [execOp, Act.eval]; go_simp) rfl⟩
    | 6, hi =>
      cases (show some _ = some o from hi)
      have e9 : (f.tmps.getD 9 undef) = .pointer (some ⟨rc, 1, none⟩) := depO (V := (VFi rc most n kk vv es a c (W.heap.size) N)) hdep 5 9 (by kernel_rfl) (by kernel_rfl)
      clear hdep hsame hi hlate hfr hkeep
      have cc1 := er_cellAt ((hkeep8 10 (.inr (by kernel_rfl)) rc RW.out (if_pos rfl)).trans MB.out) 1 _ rfl
      exact .inl ⟨wanted_none rfl, showsO_pure hsn rfl (.slice a n c) (by simp only [execOp, Act.eval]; go_simp) rfl⟩
    | 7, hi =>
      cases (show some _ = some o from hi)
      have e6 : NewG own u (f.tmps.getD 6 undef) (W.heap.size) 84 #[.int .i64 kk, .int .i64 vv] := depO (V := (VFi rc most n kk vv es a c (W.heap.size) N)) hdep 2 6 (by kernel_rfl) (by kernel_rfl)
      have e10 : (f.tmps.getD 10 undef) = .slice a n c := depO (V := (VFi rc most n kk vv es a c (W.heap.size) N)) hdep 6 10 (by kernel_rfl) (by kernel_rfl)
      clear hdep hsame hi hlate hfr
      exact .inl ⟨wanted_none rfl, showsO_newAppend hsn rfl (.tmp 6) (.tmp 10) 49 rfl (W.heap.size) 84 i0 (.agg #[.int .i64 0, .int .i64 0]) 2 16 Tryz.underlying49 RI.out.1 RI.out.2.1 RI.out.2.2.1 RI.out.2.2.2 rfl (by decide) hsn.size #[.int .i64 kk, .int .i64 vv] rfl e6 a n c (itc es) e10 LN.out (fun h => NEW.out u (fun g hg => hsn.keep g (ALT.out g hg) (if_neg (ANR.out g hg))) h) Q1.out Q2.out (fun _ _ _ h => ⟨h.1, fun k hk => h.2 k hk⟩)⟩
    | 8, hi =>
      cases (show some _ = some o from hi)
      have e4 : (f.tmps.getD 4 undef) = .pointer (some ⟨rc, 0, none⟩) := depO (V := (VFi rc most n kk vv es a c (W.heap.size) N)) hdep 0 4 (by kernel_rfl) (by kernel_rfl)
      clear hdep hsame hi hlate hfr hkeep
      exact .inl ⟨wanted_none rfl, showsO_pure hsn rfl (.pointer (some ⟨rc, 0, none⟩)) (by simp only [execOp, Act.eval]; go_simp) rfl⟩
    | 9, hi =>
      cases (show some _ = some o from hi)
      have e12 : (f.tmps.getD 12 undef) = .pointer (some ⟨rc, 0, none⟩) := depO (V := (VFi rc most n kk vv es a c (W.heap.size) N)) hdep 8 12 (by kernel_rfl) (by kernel_rfl)
      clear hdep hsame hi hlate hfr hkeep
      exact .inl ⟨wanted_none rfl, showsO_pure hsn rfl (.pointer (some ⟨rc, 1, none⟩)) (by simp only [execOp, Act.eval]; go_simp) rfl⟩
    | 10, hi =>
      cases (show some _ = some o from hi)
      have e11 : RowN own u (f.tmps.getD 11 undef) (W.heap.size) 84 2 (1 + n) ((#[.int .i64 kk, .int .i64 vv] : Array Value).toList ++ itc es) := depO (V := (VFi rc most n kk vv es a c (W.heap.size) N)) hdep 7 11 (by kernel_rfl) (by kernel_rfl)
      have e13 : (f.tmps.getD 13 undef) = .pointer (some ⟨rc, 1, none⟩) := depO (V := (VFi rc most n kk vv es a c (W.heap.size) N)) hdep 9 13 (by kernel_rfl) (by kernel_rfl)
      clear hdep hsame hi hlate hfr hkeep
      have hst := er_cellAt ((hkeep8 10 (.inl rfl) rc RW.out (if_pos rfl)).trans MB.out) 1 _ rfl
      have hfr2 : u.frozen? ⟨rc, 1, none⟩ = false := frozenC ((hkeep8 10 (.inl rfl) rc RW.out (if_pos rfl)).trans MB.out) 1
      obtain ⟨a1, c1, ev, _, _, _⟩ := own_shapeK e11.1
      rw [ev] at e11
      have HQ : ∀ {v}, RowN own u v (W.heap.size) 84 2 (1 + n) ((#[.int .i64 kk, .int .i64 vv] : Array Value).toList ++ itc es) → RowN own (u.setCell ⟨rc, 1, none⟩ v) v (W.heap.size) 84 2 (1 + n) ((#[.int .i64 kk, .int .i64 vv] : Array Value).toList ++ itc es) := fun h => ⟨ownsRow_setCell_ne h.1 _ _ (fun j hj e => by have e2 : j = rc := e; have := (hsn.owns rc RW.out); rw [if_pos rfl] at this; have h2 := h.2 j hj; rw [e2, this] at h2; cases h2), h.2⟩
      exact .inl ⟨wanted_none rfl, showsO_store_cell hsn hkeep8 rfl rc 1 #[.int .i64 (most : Int), .slice a n c] 51 MB.out (if_pos rfl) (.slice a1 (1 + n) c1) (by simp only [execOp, Act.eval]; go_simp) (fun h => ⟨_, h, HQ e11⟩)⟩
    | n + 11, hi => exact absurd hi (by simp)
  · intro f u own hsame hsn hall
    have q4 : f.tmps.getD 4 undef = .pointer (some ⟨rc, 0, none⟩) := finO (V := (VFi rc most n kk vv es a c (W.heap.size) N)) hall 0 4 rfl
    have q5 : f.tmps.getD 5 undef = .agg #[.int .i64 kk, .int .i64 vv] := finO (V := (VFi rc most n kk vv es a c (W.heap.size) N)) hall 1 5 rfl
    obtain ⟨g6, q6, o6, _, m6⟩ := finO (V := (VFi rc most n kk vv es a c (W.heap.size) N)) hall 2 6 rfl
    have q7 : f.tmps.getD 7 undef = .pointer (some ⟨rc, 0, none⟩) := finO (V := (VFi rc most n kk vv es a c (W.heap.size) N)) hall 3 7 rfl
    have q8 : f.tmps.getD 8 undef = .pointer (some ⟨rc, 0, none⟩) := finO (V := (VFi rc most n kk vv es a c (W.heap.size) N)) hall 4 8 rfl
    have q9 : f.tmps.getD 9 undef = .pointer (some ⟨rc, 1, none⟩) := finO (V := (VFi rc most n kk vv es a c (W.heap.size) N)) hall 5 9 rfl
    have q10 : f.tmps.getD 10 undef = .slice a n c := finO (V := (VFi rc most n kk vv es a c (W.heap.size) N)) hall 6 10 rfl
    have m11 := finO (V := (VFi rc most n kk vv es a c (W.heap.size) N)) hall 7 11 rfl
    obtain ⟨r11, q11⟩ : ∃ r, f.tmps.getD 11 undef = r := ⟨_, rfl⟩
    rw [q11] at m11
    have q12 : f.tmps.getD 12 undef = .pointer (some ⟨rc, 0, none⟩) := finO (V := (VFi rc most n kk vv es a c (W.heap.size) N)) hall 8 12 rfl
    have q13 : f.tmps.getD 13 undef = .pointer (some ⟨rc, 1, none⟩) := finO (V := (VFi rc most n kk vv es a c (W.heap.size) N)) hall 9 13 rfl
    obtain ⟨s1, ⟨ob, hbb⟩, hrf⟩ := finN (V := (VFi rc most n kk vv es a c (W.heap.size) N)) hall 10 rfl
    obtain rfl := frame_eq hsame [(4, .pointer (some ⟨rc, 0, none⟩)), (5, .agg #[.int .i64 kk, .int .i64 vv]), (6, .slice (some ⟨g6, 0, none⟩) 1 1), (7, .pointer (some ⟨rc, 0, none⟩)), (8, .pointer (some ⟨rc, 0, none⟩)), (9, .pointer (some ⟨rc, 1, none⟩)), (10, .slice a n c), (11, r11), (12, .pointer (some ⟨rc, 0, none⟩)), (13, .pointer (some ⟨rc, 1, none⟩))] (by kernel_rfl) ⟨q4, q5, q6, q7, q8, q9, q10, q11, q12, q13, trivial⟩
    clear hall hsame q4 q5 q6 q7 q8 q9 q10 q11 q12 q13
    simp only [List.foldl, List.setIfInBounds_toArray, List.set_cons_succ, List.set_cons_zero]
    have HBB := Bx.mk hbb; have RF := Bx.mk hrf; have HSN := Bx.mk hsn
    clear hbb hrf ob hsn
    go_wp2_with fail
    go_end0
    have kk0 : Keep (fun k => k = rc) W u := ⟨HSN.out.os, HSN.out.tape, HSN.out.output, HSN.out.size, fun k hk hn => HSN.out.keep k hk (if_neg hn)⟩
    refine ⟨rfl, s1, ⟨HBB.out, M.out.br, ?_⟩, (Keep.of_below KB.out _).trans kk0 (fun _ _ h => h), fun k hk => Nat.le_trans KB.out.size (ownsRow_ge RF.out.1 k hk)⟩
    have h1 := ownsRow_mono RF.out.1 (Nat.le_trans HBS.out KB.out.size)
    rw [itc_cons] at h1
    rw [List.length_cons, ← HN.out, Nat.add_comm]
    exact h1
theorem rnew13_any (w : World) (n : Nat) (hn : n ≤ 1024) : Calls Tryz.prog 5 #[.int .i64 (n : Int)] w fun e w' => ∃ r, e = .returned (.tuple #[.pointer (some ⟨r, 0, none⟩), .agg #[.int .i64 0, .int .i64 0]]) ∧ RfM w.heap.size w' r n [] (.slice none 0 0) ∧ Below w.heap.size w w' := by
  have kb := er_al (Below.refl w.heap.size w) (.cells #[.int .i64 0, .int .i64 0] 35)
  have x0 := heap_alloc_new w (.cells #[.int .i64 0, .int .i64 0] 35)
  have f1 : ¬ (n : Int) < 0 := by omega
  have f2 : ¬ (1024 : Int) < (n : Int) := by omega
  have KB := Bx.mk kb
  clear hn kb
  go_enter Tryz.func5, Tryz.ntmps5
  go_upto_region 1 with (fail)
  change Code.wp _ _ _ _ (w.alloc (.cells #[.int .i64 0, .int .i64 0] 35))
  generalize w.alloc (.cells #[.int .i64 0, .int .i64 0] 35) = W at KB x0 ⊢
  obtain ⟨N, hN⟩ : ∃ N, N = w.heap.size := ⟨_, rfl⟩
  rw [← hN] at x0 ⊢
  have x1 : (W.alloc (.cells #[.int .i64 (n : Int), .slice none 0 0] 51)).heap[N]? = some (.cells #[.int .i64 0, .int .i64 0] 35 (0, 0)) := (er_al (Below.refl _ _) _ |>.block N (Array.getElem?_eq_some_iff.1 x0).1).trans x0
  have X1 := Bx.mk x1; have HN := Bx.mk hN
  have NL := Bx.mk (Array.getElem?_eq_some_iff.1 x0).1
  have c0 := er_cellAt x1 0 _ rfl; have c1 := er_cellAt x1 1 _ rfl
  have f3 := frozenC x1 0; have f4 := frozenC x1 1
  clear x0 x1 hN
  go_wp2_with fail
  refine bodyPost_ret (res_tf rfl _ _ N _ _ _ _ rfl (two_setI X1.out _ _) Tryz.underlying35 (by kernel_rfl)) rfl ⟨W.heap.size, rfl, ⟨?_, KB.out.size, World.ownsRow_nil _ _ _ _⟩, ?_⟩
  · have hne : W.heap.size ≠ N := by have := NL.out; omega
    have h := heap_alloc_new W (.cells #[.int .i64 (n : Int), .slice none 0 0] 51)
    exact ((Keep.setCell _ ⟨N, 1, none⟩ _).block _ (by simp [World.setCell]) hne).trans (((Keep.setCell _ ⟨N, 0, none⟩ _).block _ (by simp) hne).trans h)
  · exact ((er_al KB.out _).setCell (show w.heap.size ≤ N by have := HN.out; omega) _).setCell (show w.heap.size ≤ N by have := HN.out; omega) _
theorem rnew13_bad (w : World) (k : Int) (hk : k < 0 ∨ 1024 < k) : Calls Tryz.prog 5 #[.int .i64 k] w fun e w' => e = .returned (.tuple #[.pointer none, .agg #[.int .i64 2, .int .i64 (-1)]]) ∧ Below w.heap.size w w' := by
  have kb := er_al (Below.refl w.heap.size w) (.cells #[.int .i64 0, .int .i64 0] 35)
  have x0 := heap_alloc_new w (.cells #[.int .i64 0, .int .i64 0] 35)
  have cp := fun w => plainP_any w 2 (by decide)
  have CP := Bx.mk cp; have KB := Bx.mk kb
  clear kb cp
  go_enter Tryz.func5, Tryz.ntmps5
  go_upto_region 1 with (fail)
  change Code.wp _ _ _ _ (w.alloc (.cells #[.int .i64 0, .int .i64 0] 35))
  generalize w.alloc (.cells #[.int .i64 0, .int .i64 0] 35) = W at KB x0 ⊢
  obtain ⟨N, hN⟩ : ∃ N, N = w.heap.size := ⟨_, rfl⟩
  rw [← hN] at x0 ⊢
  have X0 := Bx.mk x0; have HN := Bx.mk hN
  clear x0 hN
  by_cases f1 : k < 0
  all_goals
    try (have f2 : (1024 : Int) < k := by omega)
    clear hk
    go_wp2_with fail
    refine (CP.out _).mono ?_
    rintro e w1 ⟨rfl, hb⟩
    have x1 := (hb.block N (Array.getElem?_eq_some_iff.1 X0.out).1).trans X0.out
    have X1 := Bx.mk x1
    have B1 := Bx.mk (KB.out.trans (hb.mono KB.out.size))
    have c0 := er_cellAt x1 0 _ rfl; have c1 := er_cellAt x1 1 _ rfl
    have f3 := frozenC x1 0; have f4 := frozenC x1 1
    clear hb x1
    go_wp2_with fail
    refine bodyPost_ret (res_tf rfl _ _ N _ _ _ _ rfl (two_setI X1.out _ _) Tryz.underlying35 (by kernel_rfl)) rfl ⟨rfl, (B1.out.setCell (show w.heap.size ≤ N by have := HN.out; omega) _).setCell (show w.heap.size ≤ N by have := HN.out; omega) _⟩
end Go.Proofs.YtdepmjgibenejaaGreatDoor
