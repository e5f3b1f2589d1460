/- Caches of string, int: Put. -/
import Derived.Test.YtdepmjgibenejaaDoorCaSD
import Derived.Great.BuildSlice
namespace Go.Proofs.YtdepmjgibenejaaDoor
set_option maxRecDepth 100000
open Go.RowKit Go.Maps
theorem icells_setVS {l : List (CaI ByteArray Int)} (h : SzI kcS vcS 1 1 l) (j : Nat) (x : Int) : (icells kcS vcS l).set (j * 4 + 1) (.int .i64 x) = icells kcS vcS (setV l j x) := by
  refine flat_set _ 4 (fun y => { y with v := x }) (.int .i64 x) 1 (by decide) l j h.len fun y _ => ?_
  rfl
theorem SzI.setVS {l : List (CaI ByteArray Int)} (h : SzI kcS vcS 1 1 l) (j : Nat) (x : Int) : SzI kcS vcS 1 1 (setV l j x) := fun y hy => by
  rcases mem_modify hy with h1 | ⟨z, h1, rfl⟩
  · exact h y h1
  · exact ⟨(h z h1).1, rfl⟩
def setKS (l : List (CaI ByteArray Int)) (j : Nat) (k : ByteArray) : List (CaI ByteArray Int) := l.modify j fun x => { x with k := k }
theorem icells_setKS {l : List (CaI ByteArray Int)} (h : SzI kcS vcS 1 1 l) (j : Nat) (k : ByteArray) : (icells kcS vcS l).set (j * 4 + 0) (.string k) = icells kcS vcS (setKS l j k) := by
  refine flat_set _ 4 (fun y => { y with k := k }) (.string k) 0 (by decide) l j h.len fun y _ => ?_
  rfl
theorem SzI.setKS {l : List (CaI ByteArray Int)} (h : SzI kcS vcS 1 1 l) (j : Nat) (k : ByteArray) : SzI kcS vcS 1 1 (setKS l j k) := fun y hy => by
  rcases mem_modify hy with h1 | ⟨z, h1, rfl⟩
  · exact h y h1
  · exact ⟨rfl, (h z h1).2⟩
theorem setK_setVS (l : List (CaI ByteArray Int)) (j : Nat) (k : ByteArray) (x : Int) : setV (setKS l j k) j x = setKV l j k x := by
  apply List.ext_getElem?
  intro i
  unfold setV setKS setKV
  rw [modify_get, modify_get, modify_get]
  split
  · cases l[i]? <;> rfl
  · rfl
theorem setK_lenS (l : List (CaI ByteArray Int)) (j : Nat) (k : ByteArray) : (setKS l j k).length = l.length := List.length_modify ..
theorem item_atS (base : Nat) (w : World) (r bm most : Nat) (its : List (CaI ByteArray Int)) (g n c : Nat) (cur : Array Value) (fr : List Nat) (sf : Value) (D : DataW Unit) (m : CaMS base w r bm most its g n c cur fr sf D) {i : Nat} (hi : i < its.length) : ∃ kk vv, w.cell? ⟨g, i * 4 + 1, none⟩ = some (.int .i64 vv) ∧ w.cell? ⟨g, i * 4, none⟩ = some (.string kk) := by
  have h := m.value (i := i) (x := (its[i].k, its[i].v)) (by unfold kvF; rw [List.getElem?_eq_getElem hi]; rfl)
  exact ⟨_, _, h.1, h.2⟩
set_option maxHeartbeats 1600000 in
theorem put_hitS (base : Nat) (w : World) (r most : Nat) (es : List (ByteArray × Int)) (B : Nat → Prop) (hbase : base ≤ w.heap.size) (h : CaXS base w r most es B) (k : ByteArray) (hk : kwS k) (x : Int) (t : Nat) (ht : t < es.length) (hke : es[t].1 = k) :
    Calls Tryd.prog 13 #[.pointer (some ⟨r, 0, none⟩), .string k, .int .i64 x] w fun e w' => e = .returned (.tuple #[.string ⟨#[]⟩, .bool false]) ∧ CaTS base w w' r most ((k, x) :: es.eraseIdx t) B := by
  obtain ⟨h0, bm, its, g, n, c, cur, fr, sf, D, o, m, v, hB⟩ := h
  have HKEY := Bx.mk (keyS hk)
  have c1 := er_cellAt m.hb 1 _ rfl
  have hmn := fun w => run_eql_map_nil (P := Tryd.prog) w 50 9 3 (some bm) Tryd.underlying50
  have HM := Bx.mk m.map; have HMM := Bx.mk m; have HV := Bx.mk v; have HB := Bx.mk hB; have HBS := Bx.mk hbase; have H1024 := Bx.mk h0
  have hto : t < o.length := by rw [v.len]; exact ht
  have hh : Maps.has D (klS k) = true := (v.has k hk).2 (hke ▸ List.mem_map.2 ⟨_, List.getElem_mem ht, rfl⟩)
  have hat0 := v.at' _ (List.getElem_mem hto) _ (v.kvt ht) (.lit (.int .i64 0))
  rw [hke] at hat0
  have v1 := v.setv ht hto x
  have ht1 : t < (es.set t (es[t].1, x)).length := by rw [List.length_set]; exact ht
  obtain ⟨fb, fv⟩ := v1.front ht1 hto
  rw [List.getElem_set_self, List.eraseIdx_set_eq, hke] at fv
  obtain ⟨l1, l2, l3⟩ := v1.lt hto
  obtain ⟨i, hi⟩ : ∃ i, i = o[t] := ⟨_, rfl⟩
  rw [← hi] at fb fv l1 l2 l3 hat0
  obtain ⟨k0, x0, cv0, -⟩ := item_atS base w r bm most its g n c cur fr sf D m (i := i) (by rw [setV_len] at l1; exact l1)
  have c2 := er_cellAt m.hb 2 _ rfl
  have f3 : (i : Int) < (n : Int) := by have := m.nl; rw [setV_len] at l1; omega
  have ff := frozenC m.row.hb (i * 4 + 1)
  have hrow := m.row.setW (i * 4 + 1) (.int .i64 x)
  rw [icells_setVS m.sz] at hrow
  have hk1 : Keep (fun j => j = g) w (w.setCell ⟨g, i * 4 + 1, none⟩ (.int .i64 x)) := Keep.setCell w ⟨g, i * 4 + 1, none⟩ _
  have M0 := Bx.mk (m.turnG hk1 hrow (setV_len _ _ _) (m.sz.setVS _ _)); have K0 := Bx.mk hk1
  have FB := Bx.mk fb; have FV := Bx.mk fv; have L1 := Bx.mk l1; have L2 := Bx.mk l2; have L3 := Bx.mk l3; have AT := Bx.mk hat0
  clear m v v1 hB hk h0 fb fv l1 l2 l3 hat0 hi ht ht1 hto hke hrow hk1 hbase
  go_enter Tryd.func13, Tryd.ntmps13
  go_upto_region 5 with (at_lookup; refine wpList_lookup_own_ok_int _ rfl _ _ 50 rfl 9 3 .i64 lawS Tryd.underlying50 Tryd.underlying3 (zeroES _) bm (Maps.size D) D rfl HM.out _ _ rfl HKEY.out ?_; intro ci hat hwc; have HAT := Bx.mk hat; clear hat hwc)
  obtain rfl : ci = (i : Int) := by
    have h1 := HAT.out
    rw [AT.out] at h1
    injection h1 with h1; injection h1 with _ h1; exact h1.symm
  clear c1
  go_wp2_with fail
  generalize w.setCell ⟨g, i * 4 + 1, none⟩ (.int .i64 x) = w0 at M0 K0 ⊢
  refine (out_anyS base w0 r bm most _ g n c _ fr sf D M0.out i L1.out L2.out L3.out).mono ?_
  rintro e w1 ⟨rfl, cur1, m1, k1⟩
  have M1 := Bx.mk m1; have K1 := Bx.mk (K0.out.trans k1 (fun _ _ h => h))
  clear m1 k1
  go_wp2_with fail
  refine (first_anyS base w1 r bm most _ g n c cur1 fr sf D M1.out i (by rw [outI_len]; exact L1.out) (by rw [outI_len]; exact FB.out)).mono ?_
  rintro e w2 ⟨rfl, cur2, m2, k2⟩
  have M2 := Bx.mk m2; have K2 := Bx.mk (K1.out.trans k2 (fun _ _ h => h))
  clear m2 k2 M1 K1
  go_wp2_with fail
  go_ret2
  exact ⟨rfl, B, ⟨H1024.out, bm, _, g, n, c, cur2, fr, sf, D, _, M2.out, FV.out, HB.out⟩, K2.out.mono (fun j _ hj => (HB.out j).2 (.inr (.inr (.inl hj)))), fun k hk => .inl hk⟩
set_option maxHeartbeats 1600000 in
theorem put_zeroS (base : Nat) (w : World) (r : Nat) (es : List (ByteArray × Int)) (B : Nat → Prop) (hbase : base ≤ w.heap.size) (h : CaXS base w r 0 es B) (k : ByteArray) (hk : kwS k) (x : Int) (hx : k ∉ es.map (·.1)) :
    Calls Tryd.prog 13 #[.pointer (some ⟨r, 0, none⟩), .string k, .int .i64 x] w fun e w' => e = .returned (.tuple #[.string k, .bool true]) ∧ Below w.heap.size w w' := by
  obtain ⟨h0, bm, its, g, n, c, cur, fr, sf, D, o, m, v, hB⟩ := h
  have HKEY := Bx.mk (keyS hk)
  have c1 := er_cellAt m.hb 1 _ rfl
  have hmn := fun w => run_eql_map_nil (P := Tryd.prog) w 50 9 3 (some bm) Tryd.underlying50
  have HM := Bx.mk m.map; have HMM := Bx.mk m; have HV := Bx.mk v; have HB := Bx.mk hB; have HBS := Bx.mk hbase; have H1024 := Bx.mk h0
  have hh : Maps.has D (klS k) = false := by
    cases e : Maps.has D (klS k) with
    | false => rfl
    | true => exact absurd ((v.has k hk).1 e) hx
  have c0 := er_cellAt m.hb 0 _ rfl
  clear m v hB hx hk h0 hbase
  go_enter Tryd.func13, Tryd.ntmps13
  go_wp2_with (at_lookup; refine wpList_lookup_own_ok_int _ rfl _ _ 50 rfl 9 3 .i64 lawS Tryd.underlying50 Tryd.underlying3 (zeroES _) bm (Maps.size D) D rfl HM.out _ _ rfl HKEY.out ?_; intro ci hat hwc; have HAT := Bx.mk hat; clear hat hwc)
  go_ret2
  exact ⟨rfl, Below.refl _ _⟩
theorem infoSit : (Tryd.prog.info? 87).map (fun i => (i.zero, i.size, i.bytes)) = some (some (.agg zeroS), 4, 40) := by kernel_rfl
theorem bs_itemS (w : World) : (Instr.buildSlice 51 1 #[(0, .agg zeroS)]).run Tryd.prog w = .ok (.slice (some ⟨w.heap.size, 0, none⟩) 1 1) (w.alloc (.cells zeroS 87)) := by kernel_rfl
theorem run_bs_itemS {o : Oper} {a : Act} (w : World) (x : Operand) (ho : o.op = .buildSlice 51 1 #[(0, x)]) (hx : a.eval x = .agg zeroS) :
    (execOp a.eval o).run Tryd.prog w = .ok (.value (.slice (some ⟨w.heap.size, 0, none⟩) 1 1)) (w.alloc (.cells zeroS 87)) := by
  have hr := bs_itemS w
  unfold execOp
  simp only [ho, List.map_toArray, List.map_cons, List.map_nil, hx, Sem.run_bind, hr, Result.andThen_ok, Sem.run_pure]
theorem zero_oneS : ∀ u ∈ zeroS.toList, u.oneCell' = true := by
  have h : zeroS.all (·.oneCell') = true := by kernel_rfl
  intro u hu
  exact Array.all_eq_true_iff_forall_mem.1 h u (by simpa using hu)
theorem row_someS {w : World} {base : Nat} {e : TypeId} {size n : Nat} {v : Value} {xs : List Value} (h : w.ownsRow base e size v (n + 1) xs) : ∃ g c cur, v = .slice (some ⟨g, 0, none⟩) (n + 1) c ∧ RowG w base e size g (n + 1) c cur xs := by
  rcases id h.2 with ⟨_, h0⟩ | ⟨g, c, cur, rfl, h1, h2, h3, h4, h5, h6⟩
  · exact absurd h0 (by omega)
  · exact ⟨g, c, cur, rfl, h2, h1, h3, h4, h5, h6, h.1⟩
theorem icells_snocS (l : List (CaI ByteArray Int)) : icells kcS vcS l ++ zeroS.toList = icells kcS vcS (l ++ [⟨⟨#[]⟩, 0, 0, 0⟩]) := by
  unfold icells
  rw [List.flatMap_append]; rfl
theorem SzI.snoc {κ ν : Type} {kc : κ → List Value} {vc : ν → List Value} {K V : Nat} {l : List (CaI κ ν)} (h : SzI kc vc K V l) {x : CaI κ ν} (hx : (kc x.k).length = K ∧ (vc x.v).length = V) : SzI kc vc K V (l ++ [x]) := fun y hy => by
  rcases List.mem_append.1 hy with h1 | h1
  · exact h y h1
  · rw [List.mem_singleton.1 h1]; exact hx
theorem CaMS.grow {base : Nat} {w w' : World} {r bm most : Nat} {its its' : List (CaI ByteArray Int)} {g n c g2 n2 c2 : Nat} {cur cur2 : Array Value} {fr : List Nat} {sf : Value} {D : DataW Unit} (h : CaMS base w r bm most its g n c cur fr sf D) (k : Keep (fun j => j = r ∨ j = g) w w')
    (hb : w'.heap[r]? = some (.cells #[.int .i64 (most : Int), .map (some bm), .slice (some ⟨g2, 0, none⟩) n2 c2, sf] 54 (0, 0))) (hr : RowG w' base 87 4 g2 n2 c2 cur2 (icells kcS vcS its')) (hl : n2 = its'.length) (hs : SzI kcS vcS 1 1 its') : CaMS base w' r bm most its' g2 n2 c2 cur2 fr sf D := by
  obtain ⟨a1, a2, a3, a4⟩ := h.apart
  obtain ⟨es, clock, hm, hF⟩ := h.map
  refine ⟨hb, h.br, h.bb, hl, hr, ownsRow_keep' h.fre fun j hj => k.block j (ownsRow_lt h.fre j hj) ?_, ⟨es, clock, (k.block bm (Array.getElem?_eq_some_iff.1 hm).1 ?_).trans hm, hF⟩, hs⟩
  · rintro (e | e)
    · exact (a4 j hj).2.1 e
    · exact (a4 j hj).1 e
  · rintro (e | e)
    · exact a3 e
    · exact a2 e
theorem icells_keyS {l : List (CaI ByteArray Int)} (h : SzI kcS vcS 1 1 l) {j : Nat} (hj : j < l.length) : (icells kcS vcS l)[j * 4]? = some (.string l[j].k) := (icells_item h hj 0 (by decide)).trans rfl
theorem icells_valS {l : List (CaI ByteArray Int)} (h : SzI kcS vcS 1 1 l) {j : Nat} (hj : j < l.length) : (icells kcS vcS l)[j * 4 + 1]? = some (.int .i64 l[j].v) := (icells_item h hj 1 (by decide)).trans rfl
theorem ownsMap_belowS {w w' : World} {P : Program} {k : TypeId} {R : Value → Option (DataW Unit × List MemPlace)} {b n : Nat} {D : DataW Unit} (h : w.ownsMap P k R b n D) (hb : Below w.heap.size w w') : w'.ownsMap P k R b n D := by
  obtain ⟨es, clock, hm, hF⟩ := h
  exact ⟨es, clock, (hb.block b (Array.getElem?_eq_some_iff.1 hm).1).trans hm, hF⟩
def VSp11n (r bm most L : Nat) (oi : Nat) (v : Value) (_own : Nat → Option Nat) (_w : World) : Prop :=
  match oi with
  | 0 => v = .pointer (some ⟨r, 0, none⟩)
  | 1 => v = .pointer (some ⟨r, 0, none⟩)
  | 2 => v = .pointer (some ⟨r, 1, none⟩)
  | 3 => v = .map (some bm)
  | 4 => v = .int .i64 (L : Int)
  | 5 => v = .pointer (some ⟨r, 0, none⟩)
  | 6 => v = .pointer (some ⟨r, 0, none⟩)
  | 7 => v = .pointer (some ⟨r, 0, none⟩)
  | 8 => v = .int .i64 (most : Int)
  | 9 => v = .bool false
  | _ => True
def VSp11nmk : Nat → Option Nat := fun _ => none
theorem VSp11n_mono (r bm most L : Nat) (oi oj : Nat) (v : Value) (own : Nat → Option Nat) (w : World) (own' : Nat → Option Nat) (w' : World) (hij : oi ≠ oj)   (h : VSp11n r bm most L oj v own w) (_r1 : Rel VSp11nmk oi own w own' w') : VSp11n r bm most L oj v own' w' := by
  unfold VSp11n at h ⊢
  split at h
  · exact h
  · exact h
  · exact h
  · exact h
  · exact h
  · exact h
  · exact h
  · exact h
  · exact h
  · exact h
  · trivial

def VSp21a (r g2 n2 c2' i : Nat) (cur2 : Array Value) (k : ByteArray) (x : Int) (oi : Nat) (v : Value) (own : Nat → Option Nat) (w : World) : Prop :=
  match oi with
  | 0 => v = .pointer (some ⟨r, 0, none⟩)
  | 1 => v = .pointer (some ⟨r, 0, none⟩)
  | 2 => v = .pointer (some ⟨r, 2, none⟩)
  | 3 => v = .slice (some ⟨g2, 0, none⟩) n2 c2'
  | 4 => v = .int .i64 (i : Int)
  | 5 => v = .pointer (some ⟨r, 0, none⟩)
  | 6 => v = .pointer (some ⟨r, 0, none⟩)
  | 7 => v = .pointer (some ⟨r, 2, none⟩)
  | 8 => v = .slice (some ⟨g2, 0, none⟩) n2 c2'
  | 9 => v = .int .i64 (i : Int)
  | 10 => v = .string k
  | 11 => v = .int .i64 x
  | 12 => v = .pointer (some ⟨g2, i * 4, none⟩)
  | 13 => v = .pointer (some ⟨g2, i * 4, none⟩)
  | 14 => OutV own w (g2) 14 87 (cur2.setIfInBounds (i * 4 + 0) (.string k))
  | 15 => v = .pointer (some ⟨g2, i * 4, none⟩)
  | 16 => v = .pointer (some ⟨g2, i * 4 + 1, none⟩)
  | _ => True
def VSp21amk : Nat → Option Nat := fun _ => none
theorem VSp21a_mono (r g2 n2 c2' i : Nat) (cur2 : Array Value) (k : ByteArray) (x : Int) (oi oj : Nat) (v : Value) (own : Nat → Option Nat) (w : World) (own' : Nat → Option Nat) (w' : World) (hij : oi ≠ oj)   (h : VSp21a r g2 n2 c2' i cur2 k x oj v own w) (r1 : Rel VSp21amk oi own w own' w') : VSp21a r g2 n2 c2' i cur2 k x oj v own' w' := by
  unfold VSp21a at h ⊢
  split at h
  · exact h
  · exact h
  · exact h
  · exact h
  · exact h
  · exact h
  · exact h
  · exact h
  · exact h
  · exact h
  · exact h
  · exact h
  · exact h
  · exact h
  · exact h.stable r1 hij
  · exact h
  · exact h
  · trivial

def VSp21b (r g n c i : Nat) (cur : Array Value) (k : ByteArray) (x : Int) (oi : Nat) (v : Value) (own : Nat → Option Nat) (w : World) : Prop :=
  match oi with
  | 0 => v = .pointer (some ⟨r, 0, none⟩)
  | 1 => v = .pointer (some ⟨r, 0, none⟩)
  | 2 => v = .pointer (some ⟨r, 2, none⟩)
  | 3 => v = .slice (some ⟨g, 0, none⟩) n c
  | 4 => v = .int .i64 (i : Int)
  | 5 => v = .pointer (some ⟨r, 0, none⟩)
  | 6 => v = .pointer (some ⟨r, 0, none⟩)
  | 7 => v = .pointer (some ⟨r, 2, none⟩)
  | 8 => v = .slice (some ⟨g, 0, none⟩) n c
  | 9 => v = .int .i64 (i : Int)
  | 10 => v = .string k
  | 11 => v = .int .i64 x
  | 12 => v = .pointer (some ⟨g, i * 4, none⟩)
  | 13 => v = .pointer (some ⟨g, i * 4, none⟩)
  | 14 => OutV own w (g) 14 87 (cur.setIfInBounds (i * 4 + 0) (.string k))
  | 15 => v = .pointer (some ⟨g, i * 4, none⟩)
  | 16 => v = .pointer (some ⟨g, i * 4 + 1, none⟩)
  | _ => True
def VSp21bmk : Nat → Option Nat := fun _ => none
theorem VSp21b_mono (r g n c i : Nat) (cur : Array Value) (k : ByteArray) (x : Int) (oi oj : Nat) (v : Value) (own : Nat → Option Nat) (w : World) (own' : Nat → Option Nat) (w' : World) (hij : oi ≠ oj)   (h : VSp21b r g n c i cur k x oj v own w) (r1 : Rel VSp21bmk oi own w own' w') : VSp21b r g n c i cur k x oj v own' w' := by
  unfold VSp21b at h ⊢
  split at h
  · exact h
  · exact h
  · exact h
  · exact h
  · exact h
  · exact h
  · exact h
  · exact h
  · exact h
  · exact h
  · exact h
  · exact h
  · exact h
  · exact h
  · exact h.stable r1 hij
  · exact h
  · exact h
  · trivial

set_option maxHeartbeats 4000000 in
theorem put_newS (base : Nat) (w : World) (r most : Nat) (es : List (ByteArray × Int)) (B : Nat → Prop) (hbase : base ≤ w.heap.size) (h : CaXS base w r most es B) (k : ByteArray) (hk : kwS k) (x : Int) (hx : k ∉ es.map (·.1)) (hlt : es.length < most) :
    Calls Tryd.prog 13 #[.pointer (some ⟨r, 0, none⟩), .string k, .int .i64 x] w fun e w' => e = .returned (.tuple #[.string ⟨#[]⟩, .bool false]) ∧ CaTS base w w' r most ((k, x) :: es) B := by
  obtain ⟨h0, bm, its, g, n, c, cur, fr, sf, D, o, m, v, hB⟩ := h
  have HKEY := Bx.mk (keyS hk)
  have c1 := er_cellAt m.hb 1 _ rfl
  have hmn := fun w => run_eql_map_nil (P := Tryd.prog) w 50 9 3 (some bm) Tryd.underlying50
  have HM := Bx.mk m.map; have HMM := Bx.mk m; have HV := Bx.mk v; have HB := Bx.mk hB; have HBS := Bx.mk hbase; have H1024 := Bx.mk h0
  have hh : Maps.has D (klS k) = false := by
    cases e : Maps.has D (klS k) with
    | false => rfl
    | true => exact absurd ((v.has k hk).1 e) hx
  have c0 := er_cellAt m.hb 0 _ rfl
  have HKW := Bx.mk hk; have HX := Bx.mk hx; have HLT := Bx.mk hlt
  have XR0 := Bx.mk m.hb; have HSZ := Bx.mk v.size
  obtain ⟨L, hL⟩ : ∃ L, L = es.length := ⟨_, rfl⟩
  rw [← hL] at HSZ
  have LNE := Bx.mk (show L < most by rw [hL]; exact hlt)
  have f0 : ¬ (most : Int) = 0 := by omega
  have f0b : ((most : Int) == 0) = false := beq_eq_false_iff_ne.2 f0
  have f0c : (most == 0) = false := beq_eq_false_iff_ne.2 (by omega)
  clear m v hB hx hk h0 hL hlt hbase
  go_enter Tryd.func13, Tryd.ntmps13
  go_upto_region 11 with (at_lookup; refine wpList_lookup_own_ok_int _ rfl _ _ 50 rfl 9 3 .i64 lawS Tryd.underlying50 Tryd.underlying3 (zeroES _) bm (Maps.size D) D rfl HM.out _ _ rfl HKEY.out ?_; intro ci hat hwc; have HAT := Bx.mk hat; clear hat hwc)
  clear c0 c1 f0 f0b f0c
  refine wp_region_own8 (n := 149) VSp11nmk (fun _ => none) (VSp11n r bm most L) (by kernel_rfl) (by kernel_rfl) rfl (fun _ _ => rfl) (fun j i hj _ => by cases hj) ?_ ?_ ?_
  · exact fun oi oj v own w own' w' hij _ h r1 => VSp11n_mono r bm most L oi oj v own w own' w' hij h r1
  · intro oi o hi f u own hsame hsn hfr hlate hkeep8 hdep
    have hkeep := hkeep8 _ (.inl rfl)
    have hb6 := hsn.below (B := w.heap.size) (fun _ _ => rfl) (Nat.le_refl _)
    match oi, hi with
    | 0, hi =>
      cases (show some _ = some o from hi)
      have e0 : f.tmps.getD 0 undef = .pointer (some ⟨r, 0, none⟩) := hsame.slot 0 (fun i o h => invB2_not 0 (by kernel_rfl) h)
      clear hdep hsame hi hlate hfr hkeep
      exact .inl ⟨wanted_none rfl, showsO_move hsn rfl _ rfl e0⟩
    | 1, hi =>
      cases (show some _ = some o from hi)
      have e54 : (f.tmps.getD 54 undef) = .pointer (some ⟨r, 0, none⟩) := depO (V := (VSp11n r bm most L)) hdep 0 54 (by kernel_rfl) (by kernel_rfl)
      clear hdep hsame hi hlate hfr hkeep
      exact .inl ⟨wanted_none rfl, showsO_pure hsn rfl (.pointer (some ⟨r, 0, none⟩)) (by simp only [execOp, Act.eval]; go_simp) rfl⟩
    | 2, hi =>
      cases (show some _ = some o from hi)
      have e55 : (f.tmps.getD 55 undef) = .pointer (some ⟨r, 0, none⟩) := depO (V := (VSp11n r bm most L)) hdep 1 55 (by kernel_rfl) (by kernel_rfl)
      clear hdep hsame hi hlate hfr hkeep
      exact .inl ⟨wanted_none rfl, showsO_pure hsn rfl (.pointer (some ⟨r, 1, none⟩)) (by simp only [execOp, Act.eval]; go_simp) rfl⟩
    | 3, hi =>
      cases (show some _ = some o from hi)
      have e56 : (f.tmps.getD 56 undef) = .pointer (some ⟨r, 1, none⟩) := depO (V := (VSp11n r bm most L)) hdep 2 56 (by kernel_rfl) (by kernel_rfl)
      clear hdep hsame hi hlate hfr hkeep
      have c57 := er_cellAt ((hb6.block _ (Array.getElem?_eq_some_iff.1 XR0.out).1).trans XR0.out) (1) _ rfl
      exact .inl ⟨wanted_none rfl, showsO_pure hsn rfl (.map (some bm)) (by simp only [execOp, Act.eval]; go_simp) rfl⟩
    | 4, hi =>
      cases (show some _ = some o from hi)
      have e57 : (f.tmps.getD 57 undef) = .map (some bm) := depO (V := (VSp11n r bm most L)) hdep 3 57 (by kernel_rfl) (by kernel_rfl)
      clear hdep hsame hi hlate hfr hkeep
      have hln := World.ownsMap.len (ownsMap_belowS HM.out hb6) Tryd.underlying50
      rw [HSZ.out] at hln
      exact .inl ⟨wanted_none rfl, showsO_pure hsn rfl (.int .i64 (L : Int)) (by simp only [execOp, Act.eval]; go_simp) rfl⟩
    | 5, hi =>
      cases (show some _ = some o from hi)
      have e0 : f.tmps.getD 0 undef = .pointer (some ⟨r, 0, none⟩) := hsame.slot 0 (fun i o h => invB2_not 0 (by kernel_rfl) h)
      clear hdep hsame hi hlate hfr hkeep
      exact .inl ⟨wanted_none rfl, showsO_move hsn rfl _ rfl e0⟩
    | 6, hi =>
      cases (show some _ = some o from hi)
      have e59 : (f.tmps.getD 59 undef) = .pointer (some ⟨r, 0, none⟩) := depO (V := (VSp11n r bm most L)) hdep 5 59 (by kernel_rfl) (by kernel_rfl)
      clear hdep hsame hi hlate hfr hkeep
      exact .inl ⟨wanted_none rfl, showsO_pure hsn rfl (.pointer (some ⟨r, 0, none⟩)) (by simp only [execOp, Act.eval]; go_simp) rfl⟩
    | 7, hi =>
      cases (show some _ = some o from hi)
      have e60 : (f.tmps.getD 60 undef) = .pointer (some ⟨r, 0, none⟩) := depO (V := (VSp11n r bm most L)) hdep 6 60 (by kernel_rfl) (by kernel_rfl)
      clear hdep hsame hi hlate hfr hkeep
      exact .inl ⟨wanted_none rfl, showsO_pure hsn rfl (.pointer (some ⟨r, 0, none⟩)) (by simp only [execOp, Act.eval]; go_simp) rfl⟩
    | 8, hi =>
      cases (show some _ = some o from hi)
      have e61 : (f.tmps.getD 61 undef) = .pointer (some ⟨r, 0, none⟩) := depO (V := (VSp11n r bm most L)) hdep 7 61 (by kernel_rfl) (by kernel_rfl)
      clear hdep hsame hi hlate hfr hkeep
      have c62 := er_cellAt ((hb6.block _ (Array.getElem?_eq_some_iff.1 XR0.out).1).trans XR0.out) (0) _ rfl
      exact .inl ⟨wanted_none rfl, showsO_pure hsn rfl (.int .i64 (most : Int)) (by simp only [execOp, Act.eval]; go_simp) rfl⟩
    | 9, hi =>
      cases (show some _ = some o from hi)
      have e58 : (f.tmps.getD 58 undef) = .int .i64 (L : Int) := depO (V := (VSp11n r bm most L)) hdep 4 58 (by kernel_rfl) (by kernel_rfl)
      have e62 : (f.tmps.getD 62 undef) = .int .i64 (most : Int) := depO (V := (VSp11n r bm most L)) hdep 8 62 (by kernel_rfl) (by kernel_rfl)
      clear hdep hsame hi hlate hfr hkeep
      exact .inl ⟨wanted_none rfl, showsO_pure hsn rfl (.bool false) (by simp only [execOp, Act.eval]; have := LNE.out; first | (go_simp; done) | (go_simp; omega) | (go_simp; simp; omega)) rfl⟩
    | n + 10, hi => exact absurd hi (by simp)
  intro fr W1 own hsame hsn hall
  have q54 : fr.tmps.getD 54 undef = .pointer (some ⟨r, 0, none⟩) := finO (V := (VSp11n r bm most L)) hall 0 54 rfl
  have q55 : fr.tmps.getD 55 undef = .pointer (some ⟨r, 0, none⟩) := finO (V := (VSp11n r bm most L)) hall 1 55 rfl
  have q56 : fr.tmps.getD 56 undef = .pointer (some ⟨r, 1, none⟩) := finO (V := (VSp11n r bm most L)) hall 2 56 rfl
  have q57 : fr.tmps.getD 57 undef = .map (some bm) := finO (V := (VSp11n r bm most L)) hall 3 57 rfl
  have q58 : fr.tmps.getD 58 undef = .int .i64 (L : Int) := finO (V := (VSp11n r bm most L)) hall 4 58 rfl
  have q59 : fr.tmps.getD 59 undef = .pointer (some ⟨r, 0, none⟩) := finO (V := (VSp11n r bm most L)) hall 5 59 rfl
  have q60 : fr.tmps.getD 60 undef = .pointer (some ⟨r, 0, none⟩) := finO (V := (VSp11n r bm most L)) hall 6 60 rfl
  have q61 : fr.tmps.getD 61 undef = .pointer (some ⟨r, 0, none⟩) := finO (V := (VSp11n r bm most L)) hall 7 61 rfl
  have q62 : fr.tmps.getD 62 undef = .int .i64 (most : Int) := finO (V := (VSp11n r bm most L)) hall 8 62 rfl
  have q63 : fr.tmps.getD 63 undef = .bool false := finO (V := (VSp11n r bm most L)) hall 9 63 rfl
  obtain rfl := frame_eq hsame [(54, .pointer (some ⟨r, 0, none⟩)), (55, .pointer (some ⟨r, 0, none⟩)), (56, .pointer (some ⟨r, 1, none⟩)), (57, .map (some bm)), (58, .int .i64 (L : Int)), (59, .pointer (some ⟨r, 0, none⟩)), (60, .pointer (some ⟨r, 0, none⟩)), (61, .pointer (some ⟨r, 0, none⟩)), (62, .int .i64 (most : Int)), (63, .bool false)] (by kernel_rfl) ⟨q54, q55, q56, q57, q58, q59, q60, q61, q62, q63, trivial⟩
  clear hall hsame q54 q55 q56 q57 q58 q59 q60 q61 q62 q63
  simp only [List.foldl, List.setIfInBounds_toArray, List.set_cons_succ, List.set_cons_zero]
  have hb := hsn.below (B := w.heap.size) (fun _ _ => rfl) (Nat.le_refl _)
  have M1 := Bx.mk (HMM.out.below hb); have K1 := Bx.mk (Keep.of_below hb (CaB r bm g sf)); have BS1 := Bx.mk (Nat.le_trans HBS.out hb.size)
  clear hb hsn XR0 HM HMM HBS
  obtain ⟨a3, c3, hsf⟩ := own_shapeC M1.out.fre
  obtain ⟨sf0, hsf0⟩ : ∃ s, s = sf := ⟨_, rfl⟩
  rw [← hsf0] at K1
  have c2 := er_cellAt M1.out.hb 2 _ rfl
  have c3f := er_cellAt M1.out.hb 3 _ rfl
  rw [hsf] at c3f
  rcases List.eq_nil_or_concat fr with hfr | ⟨fr0, i, hfr⟩
  · subst hfr
    have V0 := HV.out.more ⟨⟨#[]⟩, 0, 0, 0⟩ HLT.out
    obtain ⟨i, hi⟩ : ∃ i, i = its.length := ⟨_, rfl⟩
    rw [← hi] at V0
    have hni : n = i := by rw [hi]; exact M1.out.nl
    have V2 := Bx.mk V0
    have NI := Bx.mk hni
    have hsf2 : sf = .slice a3 0 c3 := hsf
    have c3g : W1.cell? ⟨r, 3, none⟩ = some (.slice a3 0 c3) := c3f
    have RW1 := Bx.mk M1.out.row.own
    have NBD : Bx (n ≤ 1025) := ⟨by rw [M1.out.nl]; have h1 := HV.out.bnd; have h2 := H1024.out; omega⟩
    obtain ⟨i0, hi1, hz0, hz1, hz2⟩ := info_parts infoSit
    have INF := Bx.mk (And.intro hi1 (And.intro hz0 (And.intro hz1 hz2)))
    clear V0 hi hni hsf c3f hi1 hz0 hz1 hz2
    go_upto_region 20 with (fail)
    clear c2 c3g
    have c2 := er_cellAt M1.out.hb 2 _ rfl
    go_wp2_with (first
      | (guard_target =~ wpList _ _ _ (⟨some 117, _, _, _, _, _⟩ :: _) _ _; refine wpList_build_c (by simp [Region.wanted]) 87 #[] rfl zeroS (by simp only [List.map_toArray, List.map_nil]; exact builtS0) ?_)
      | (guard_target =~ wpList _ _ _ (⟨some 118, _, _, _, _, _⟩ :: _) _ _; refine wpList_run_c (by simp [Region.wanted]) (.slice (some ⟨W1.heap.size, 0, none⟩) 1 1) (run_bs_itemS W1 (.tmp 117) rfl rfl) ?_)
      | (at_builtin; refine wpList_append_own_at _ rfl _ _ 51 rfl base 87 i0 (.agg zeroS) 4 40 Tryd.underlying51 INF.out.1 INF.out.2.1 INF.out.2.2.1 INF.out.2.2.2 (by kernel_rfl) (by decide) (.slice (some ⟨g, 0, none⟩) n c) n (icells kcS vcS its) rfl (RW1.out.alloc _) ⟨W1.heap.size, 0, none⟩ 1 1 zeroS.toList rfl (by kernel_rfl) (fun j u hu => by rw [Addr.add_mid, Nat.zero_add]; exact er_cellAt (heap_alloc_new _ _) j u (by simpa using hu)) (zero_oneS) (by have := NBD.out; unfold maxLen; omega) (by have := NBD.out; omega) (by have := BS1.out; simp; omega) ?_; intro sl w2 hown hgrow _ hloc; obtain ⟨g2, c2', cur2, rfl, hR2⟩ := row_someS hown; have kk := (Keep.of_below (er_al (Below.refl W1.heap.size W1) (.cells zeroS 87)) (fun j => j = g)).trans (Keep.of_grown hgrow) (fun j _ h => (Option.some.inj h).symm); have hr6 := (kk.block r (Array.getElem?_eq_some_iff.1 M1.out.hb).1 M1.out.apart.1).trans M1.out.hb; have c26 := er_cellAt hr6 2 _ rfl; have f26 := frozenC hr6 2; have HR6 := Bx.mk hr6; have KK := Bx.mk kk; have HR2 := Bx.mk hR2; have HL := Bx.mk hloc; clear hr6 kk hown hloc hgrow c2 hR2))
    have k7 : Keep (fun j => j = r ∨ j = g) W1 (w2.setCell ⟨r, 2, none⟩ (.slice (some ⟨g2, 0, none⟩) (n + 1) c2')) := (KK.out.mono (fun j _ h => .inr h)).trans ((Keep.setCell w2 ⟨r, 2, none⟩ _).mono (S' := fun j => j = r ∨ j = g) (fun j _ h => .inl h)) (fun _ _ h => h)
    have hr7 : (w2.setCell ⟨r, 2, none⟩ (.slice (some ⟨g2, 0, none⟩) (n + 1) c2')).heap[r]? = some (.cells #[.int .i64 (most : Int), .map (some bm), .slice (some ⟨g2, 0, none⟩) (n + 1) c2', sf] 54 (0, 0)) := by simp [World.setCell, Array.getElem?_modify, HR6.out]
    have hgr : g2 ≠ r := fun e => by
      have h1 := HR2.out.hb
      rw [e, HR6.out] at h1
      injection h1 with h1; injection h1 with _ h1; exact absurd h1 (by decide)
    have hrow7 := HR2.out.kept (w' := w2.setCell ⟨r, 2, none⟩ (.slice (some ⟨g2, 0, none⟩) (n + 1) c2')) (by simp [World.setCell, Array.getElem?_modify, Ne.symm hgr])
    rw [icells_snocS] at hrow7
    have M2 := Bx.mk (M1.out.grow k7 hr7 hrow7 (by rw [List.length_append, ← M1.out.nl]; rfl) (M1.out.sz.snoc (by decide)))
    have K2a := Bx.mk (K1.out.trans k7 (fun j hj h => by rcases h with h | h; exact .inl h; exact .inr (.inr (.inl h))))
    have HG2 : Bx (g2 = g ∨ w.heap.size ≤ g2) := ⟨by
      rcases HL.out with h | h
      · exact .inl (Option.some.inj h)
      · have h1 := K1.out.size
        have h2 := Option.some.inj h
        have h3 : W1.heap.size ≤ g2 := by rw [show g2 = _ from h2]; simp
        exact .inr (by omega)⟩
    have HSF := Bx.mk hsf0
    clear k7 hr7 hgr hrow7 HR6 KK HR2 HL c26 f26 M1 K1 RW1
    generalize w2.setCell ⟨r, 2, none⟩ (.slice (some ⟨g2, 0, none⟩) (n + 1) c2') = W4 at M2 K2a ⊢
    obtain ⟨n2, hn2⟩ : ∃ n2, n2 = n + 1 := ⟨_, rfl⟩
    rw [← hn2] at M2 ⊢
    rw [show (n : Int) = (i : Int) by rw [NI.out]] 
    clear hn2
    skip
    have XR := Bx.mk M2.out.hb; have GL := Bx.mk (Array.getElem?_eq_some_iff.1 M2.out.row.hb).1; have RL := Bx.mk M2.out.apart.1
    obtain ⟨hb0, il, va⟩ := CaV.add injS keylitS (fr := []) (i := i) V2.out x HKW.out HX.out HLT.out
    have VA := Bx.mk va; have IL := Bx.mk il; have FB := Bx.mk hb0; have IN := Bx.mk (show i < n2 by rw [M2.out.nl]; exact il)
    clear va il hb0
    go_upto_region 21 with (fail)
    refine wp_region_last (n := 149) (m := 17) VSp21amk (fun k => if k = g2 then some 14 else none) (VSp21a r g2 n2 c2' i cur2 k x) (by kernel_rfl) (by kernel_rfl) rfl rfl (by kernel_rfl) (fun k hk => if_neg (by have := GL.out; omega)) (fun j i hj _ => by cases hj) ?_ ?_ ?_
    · exact fun oi oj v own w own' w' hij _ h r1 => VSp21a_mono r g2 n2 c2' i cur2 k x oi oj v own w own' w' hij h r1
    · intro oi o hltm hi f u own hsame hsn hfr hlate hkeep8 hdep
      have hkeep := hkeep8 _ (.inl rfl)
      have hk6 := hsn.keepOne
      match oi, hi with
      | 0, hi =>
        cases (show some _ = some o from hi)
        have e0 : f.tmps.getD 0 undef = .pointer (some ⟨r, 0, none⟩) := hsame.slot 0 (fun i o h => invB2_not 0 (by kernel_rfl) h)
        clear hdep hsame hi hlate hfr hkeep
        exact .inl ⟨wanted_none rfl, showsO_move hsn rfl _ rfl e0⟩
      | 1, hi =>
        cases (show some _ = some o from hi)
        have e122 : (f.tmps.getD 122 undef) = .pointer (some ⟨r, 0, none⟩) := depO (V := (VSp21a r g2 n2 c2' i cur2 k x)) hdep 0 122 (by kernel_rfl) (by kernel_rfl)
        clear hdep hsame hi hlate hfr hkeep
        exact .inl ⟨wanted_none rfl, showsO_pure hsn rfl (.pointer (some ⟨r, 0, none⟩)) (by simp only [execOp, Act.eval]; go_simp) rfl⟩
      | 2, hi =>
        cases (show some _ = some o from hi)
        have e123 : (f.tmps.getD 123 undef) = .pointer (some ⟨r, 0, none⟩) := depO (V := (VSp21a r g2 n2 c2' i cur2 k x)) hdep 1 123 (by kernel_rfl) (by kernel_rfl)
        clear hdep hsame hi hlate hfr hkeep
        exact .inl ⟨wanted_none rfl, showsO_pure hsn rfl (.pointer (some ⟨r, 2, none⟩)) (by simp only [execOp, Act.eval]; go_simp) rfl⟩
      | 3, hi =>
        cases (show some _ = some o from hi)
        have e124 : (f.tmps.getD 124 undef) = .pointer (some ⟨r, 2, none⟩) := depO (V := (VSp21a r g2 n2 c2' i cur2 k x)) hdep 2 124 (by kernel_rfl) (by kernel_rfl)
        clear hdep hsame hi hlate hfr hkeep
        have c125 := er_cellAt ((hk6.block _ (Array.getElem?_eq_some_iff.1 XR.out).1 RL.out).trans XR.out) 2 _ rfl
        exact .inl ⟨wanted_none rfl, showsO_pure hsn rfl (.slice (some ⟨g2, 0, none⟩) n2 c2') (by simp only [execOp, Act.eval]; go_simp) rfl⟩
      | 4, hi =>
        cases (show some _ = some o from hi)
        have e11 : f.tmps.getD 11 undef = .int .i64 (i : Int) := hsame.slot 11 (fun i o h => invB2_not 11 (by kernel_rfl) h)
        clear hdep hsame hi hlate hfr hkeep
        exact .inl ⟨wanted_none rfl, showsO_move hsn rfl _ rfl e11⟩
      | 5, hi =>
        cases (show some _ = some o from hi)
        have e0 : f.tmps.getD 0 undef = .pointer (some ⟨r, 0, none⟩) := hsame.slot 0 (fun i o h => invB2_not 0 (by kernel_rfl) h)
        clear hdep hsame hi hlate hfr hkeep
        exact .inl ⟨wanted_none rfl, showsO_move hsn rfl _ rfl e0⟩
      | 6, hi =>
        cases (show some _ = some o from hi)
        have e127 : (f.tmps.getD 127 undef) = .pointer (some ⟨r, 0, none⟩) := depO (V := (VSp21a r g2 n2 c2' i cur2 k x)) hdep 5 127 (by kernel_rfl) (by kernel_rfl)
        clear hdep hsame hi hlate hfr hkeep
        exact .inl ⟨wanted_none rfl, showsO_pure hsn rfl (.pointer (some ⟨r, 0, none⟩)) (by simp only [execOp, Act.eval]; go_simp) rfl⟩
      | 7, hi =>
        cases (show some _ = some o from hi)
        have e128 : (f.tmps.getD 128 undef) = .pointer (some ⟨r, 0, none⟩) := depO (V := (VSp21a r g2 n2 c2' i cur2 k x)) hdep 6 128 (by kernel_rfl) (by kernel_rfl)
        clear hdep hsame hi hlate hfr hkeep
        exact .inl ⟨wanted_none rfl, showsO_pure hsn rfl (.pointer (some ⟨r, 2, none⟩)) (by simp only [execOp, Act.eval]; go_simp) rfl⟩
      | 8, hi =>
        cases (show some _ = some o from hi)
        have e129 : (f.tmps.getD 129 undef) = .pointer (some ⟨r, 2, none⟩) := depO (V := (VSp21a r g2 n2 c2' i cur2 k x)) hdep 7 129 (by kernel_rfl) (by kernel_rfl)
        clear hdep hsame hi hlate hfr hkeep
        have c130 := er_cellAt ((hk6.block _ (Array.getElem?_eq_some_iff.1 XR.out).1 RL.out).trans XR.out) 2 _ rfl
        exact .inl ⟨wanted_none rfl, showsO_pure hsn rfl (.slice (some ⟨g2, 0, none⟩) n2 c2') (by simp only [execOp, Act.eval]; go_simp) rfl⟩
      | 9, hi =>
        cases (show some _ = some o from hi)
        have e11 : f.tmps.getD 11 undef = .int .i64 (i : Int) := hsame.slot 11 (fun i o h => invB2_not 11 (by kernel_rfl) h)
        clear hdep hsame hi hlate hfr hkeep
        exact .inl ⟨wanted_none rfl, showsO_move hsn rfl _ rfl e11⟩
      | 10, hi =>
        cases (show some _ = some o from hi)
        have e1 : f.tmps.getD 1 undef = .string k := hsame.slot 1 (fun i o h => invB2_not 1 (by kernel_rfl) h)
        clear hdep hsame hi hlate hfr hkeep
        exact .inl ⟨wanted_none rfl, showsO_move hsn rfl _ rfl e1⟩
      | 11, hi =>
        cases (show some _ = some o from hi)
        have e2 : f.tmps.getD 2 undef = .int .i64 x := hsame.slot 2 (fun i o h => invB2_not 2 (by kernel_rfl) h)
        clear hdep hsame hi hlate hfr hkeep
        exact .inl ⟨wanted_none rfl, showsO_move hsn rfl _ rfl e2⟩
      | 12, hi =>
        cases (show some _ = some o from hi)
        have e125 : (f.tmps.getD 125 undef) = .slice (some ⟨g2, 0, none⟩) n2 c2' := depO (V := (VSp21a r g2 n2 c2' i cur2 k x)) hdep 3 125 (by kernel_rfl) (by kernel_rfl)
        have e126 : (f.tmps.getD 126 undef) = .int .i64 (i : Int) := depO (V := (VSp21a r g2 n2 c2' i cur2 k x)) hdep 4 126 (by kernel_rfl) (by kernel_rfl)
        clear hdep hsame hi hlate hfr hkeep
        have f2 : ¬ (n2 : Int) ≤ (i : Int) := by have := IN.out; omega
        have f3 : (i : Int) < (n2 : Int) := by have := IN.out; omega
        exact .inl ⟨wanted_none rfl, showsO_pure hsn rfl (.pointer (some ⟨g2, i * 4, none⟩)) (by simp only [execOp, Act.eval]; go_simp) rfl⟩
      | 13, hi =>
        cases (show some _ = some o from hi)
        have e134 : (f.tmps.getD 134 undef) = .pointer (some ⟨g2, i * 4, none⟩) := depO (V := (VSp21a r g2 n2 c2' i cur2 k x)) hdep 12 134 (by kernel_rfl) (by kernel_rfl)
        clear hdep hsame hi hlate hfr hkeep
        exact .inl ⟨wanted_none rfl, showsO_pure hsn rfl (.pointer (some ⟨g2, i * 4, none⟩)) (by simp only [execOp, Act.eval]; go_simp) rfl⟩
      | 14, hi =>
        cases (show some _ = some o from hi)
        have e132 : (f.tmps.getD 132 undef) = .string k := depO (V := (VSp21a r g2 n2 c2' i cur2 k x)) hdep 10 132 (by kernel_rfl) (by kernel_rfl)
        have e135 : (f.tmps.getD 135 undef) = .pointer (some ⟨g2, i * 4, none⟩) := depO (V := (VSp21a r g2 n2 c2' i cur2 k x)) hdep 13 135 (by kernel_rfl) (by kernel_rfl)
        clear hdep hsame hi hlate hfr hkeep
        have hg := M2.out.row.kept (hkeep8 14 (.inl rfl) g2 GL.out (if_pos rfl))
        have cc := hg.cell (icells_keyS M2.out.sz (j := i) IL.out)
        have ff := frozenC hg.hb (i * 4)
        exact .inl ⟨wanted_none rfl, showsO_store_cell hsn hkeep8 rfl g2 (i * 4 + 0) cur2 87 M2.out.row.hb (if_pos rfl) (.string k) (by simp only [execOp, Act.eval]; go_simp) (fun h => h)⟩
      | 15, hi =>
        cases (show some _ = some o from hi)
        have e130 : (f.tmps.getD 130 undef) = .slice (some ⟨g2, 0, none⟩) n2 c2' := depO (V := (VSp21a r g2 n2 c2' i cur2 k x)) hdep 8 130 (by kernel_rfl) (by kernel_rfl)
        have e131 : (f.tmps.getD 131 undef) = .int .i64 (i : Int) := depO (V := (VSp21a r g2 n2 c2' i cur2 k x)) hdep 9 131 (by kernel_rfl) (by kernel_rfl)
        clear hdep hsame hi hlate hfr hkeep
        have f2 : ¬ (n2 : Int) ≤ (i : Int) := by have := IN.out; omega
        have f3 : (i : Int) < (n2 : Int) := by have := IN.out; omega
        exact .inl ⟨wanted_none rfl, showsO_pure hsn rfl (.pointer (some ⟨g2, i * 4, none⟩)) (by simp only [execOp, Act.eval]; go_simp) rfl⟩
      | 16, hi =>
        cases (show some _ = some o from hi)
        have e136 : (f.tmps.getD 136 undef) = .pointer (some ⟨g2, i * 4, none⟩) := depO (V := (VSp21a r g2 n2 c2' i cur2 k x)) hdep 15 136 (by kernel_rfl) (by kernel_rfl)
        clear hdep hsame hi hlate hfr hkeep
        exact .inl ⟨wanted_none rfl, showsO_pure hsn rfl (.pointer (some ⟨g2, i * 4 + 1, none⟩)) (by simp only [execOp, Act.eval]; go_simp) rfl⟩
      | n + 17, hi => exact absurd hltm (by omega)
    intro o ho fr u1 own hsame hsn hla hall
    cases (show some _ = some o from ho)
    have q122 : fr.tmps.getD 122 undef = .pointer (some ⟨r, 0, none⟩) := finL (V := (VSp21a r g2 n2 c2' i cur2 k x)) hall 0 122 (by decide) rfl
    have q123 : fr.tmps.getD 123 undef = .pointer (some ⟨r, 0, none⟩) := finL (V := (VSp21a r g2 n2 c2' i cur2 k x)) hall 1 123 (by decide) rfl
    have q124 : fr.tmps.getD 124 undef = .pointer (some ⟨r, 2, none⟩) := finL (V := (VSp21a r g2 n2 c2' i cur2 k x)) hall 2 124 (by decide) rfl
    have q125 : fr.tmps.getD 125 undef = .slice (some ⟨g2, 0, none⟩) n2 c2' := finL (V := (VSp21a r g2 n2 c2' i cur2 k x)) hall 3 125 (by decide) rfl
    have q126 : fr.tmps.getD 126 undef = .int .i64 (i : Int) := finL (V := (VSp21a r g2 n2 c2' i cur2 k x)) hall 4 126 (by decide) rfl
    have q127 : fr.tmps.getD 127 undef = .pointer (some ⟨r, 0, none⟩) := finL (V := (VSp21a r g2 n2 c2' i cur2 k x)) hall 5 127 (by decide) rfl
    have q128 : fr.tmps.getD 128 undef = .pointer (some ⟨r, 0, none⟩) := finL (V := (VSp21a r g2 n2 c2' i cur2 k x)) hall 6 128 (by decide) rfl
    have q129 : fr.tmps.getD 129 undef = .pointer (some ⟨r, 2, none⟩) := finL (V := (VSp21a r g2 n2 c2' i cur2 k x)) hall 7 129 (by decide) rfl
    have q130 : fr.tmps.getD 130 undef = .slice (some ⟨g2, 0, none⟩) n2 c2' := finL (V := (VSp21a r g2 n2 c2' i cur2 k x)) hall 8 130 (by decide) rfl
    have q131 : fr.tmps.getD 131 undef = .int .i64 (i : Int) := finL (V := (VSp21a r g2 n2 c2' i cur2 k x)) hall 9 131 (by decide) rfl
    have q132 : fr.tmps.getD 132 undef = .string k := finL (V := (VSp21a r g2 n2 c2' i cur2 k x)) hall 10 132 (by decide) rfl
    have q133 : fr.tmps.getD 133 undef = .int .i64 x := finL (V := (VSp21a r g2 n2 c2' i cur2 k x)) hall 11 133 (by decide) rfl
    have q134 : fr.tmps.getD 134 undef = .pointer (some ⟨g2, i * 4, none⟩) := finL (V := (VSp21a r g2 n2 c2' i cur2 k x)) hall 12 134 (by decide) rfl
    have q135 : fr.tmps.getD 135 undef = .pointer (some ⟨g2, i * 4, none⟩) := finL (V := (VSp21a r g2 n2 c2' i cur2 k x)) hall 13 135 (by decide) rfl
    obtain ⟨o_14, m_14⟩ : OutV own u1 (g2) 14 87 (cur2.setIfInBounds (i * 4 + 0) (.string k)) := finLN (V := (VSp21a r g2 n2 c2' i cur2 k x)) hall 14 (by decide) rfl
    have q136 : fr.tmps.getD 136 undef = .pointer (some ⟨g2, i * 4, none⟩) := finL (V := (VSp21a r g2 n2 c2' i cur2 k x)) hall 15 136 (by decide) rfl
    have q137 : fr.tmps.getD 137 undef = .pointer (some ⟨g2, i * 4 + 1, none⟩) := finL (V := (VSp21a r g2 n2 c2' i cur2 k x)) hall 16 137 (by decide) rfl
    obtain rfl := frame_eq hsame [(122, .pointer (some ⟨r, 0, none⟩)), (123, .pointer (some ⟨r, 0, none⟩)), (124, .pointer (some ⟨r, 2, none⟩)), (125, .slice (some ⟨g2, 0, none⟩) n2 c2'), (126, .int .i64 (i : Int)), (127, .pointer (some ⟨r, 0, none⟩)), (128, .pointer (some ⟨r, 0, none⟩)), (129, .pointer (some ⟨r, 2, none⟩)), (130, .slice (some ⟨g2, 0, none⟩) n2 c2'), (131, .int .i64 (i : Int)), (132, .string k), (133, .int .i64 x), (134, .pointer (some ⟨g2, i * 4, none⟩)), (135, .pointer (some ⟨g2, i * 4, none⟩)), (136, .pointer (some ⟨g2, i * 4, none⟩)), (137, .pointer (some ⟨g2, i * 4 + 1, none⟩))] (by kernel_rfl) ⟨q122, q123, q124, q125, q126, q127, q128, q129, q130, q131, q132, q133, q134, q135, q136, q137, trivial⟩
    clear hall hsame q122 q123 q124 q125 q126 q127 q128 q129 q130 q131 q132 q133 q134 q135 q136 q137
    simp only [List.foldl, List.setIfInBounds_toArray, List.set_cons_succ, List.set_cons_zero]
    have hk6 := hsn.keepOne
    have hrow1 := M2.out.row.set (i * 4 + 0) (.string k) m_14
    rw [icells_setKS M2.out.sz] at hrow1
    have H1 := M2.out.turnG hk6 hrow1 (setK_lenS _ _ _) (M2.out.sz.setKS _ _)
    have cc := H1.row.cell (icells_valS H1.sz (j := i) (by rw [setK_lenS]; exact IL.out))
    have ff := frozenC H1.row.hb (i * 4 + 1)
    have hk : Keep (fun j => j = g2) u1 (u1.setCell ⟨g2, i * 4 + 1, none⟩ (.int .i64 x)) := Keep.setCell u1 ⟨g2, i * 4 + 1, none⟩ _
    have hrow := H1.row.setW (i * 4 + 1) (.int .i64 x)
    rw [icells_setVS H1.sz, setK_setVS] at hrow
    have K2 := Bx.mk (K2a.out.trans (hk6.trans hk (fun _ _ h => h)) (fun j hj h => (by rcases HG2.out with e | e; exact .inr (.inr (.inl (h.trans e))); omega)))
    have H2 := Bx.mk (H1.turnG hk hrow (by rw [setKV_len, setK_lenS]) (by have := (H1.sz.setVS i x); rwa [setK_setVS] at this))
    refine ⟨wanted_none rfl, last_skipS (w' := u1.setCell ⟨g2, i * 4 + 1, none⟩ (.int .i64 x)) rfl (by simp only [execOp, Act.eval]; go_simp) ?_⟩
    clear cc ff hrow hk H1 hrow1 hk6 hsn hla ho m_14 o_14 XR M2 K2a
    generalize u1.setCell ⟨g2, i * 4 + 1, none⟩ (.int .i64 x) = W21 at H2 K2 ⊢
    have c1 := er_cellAt H2.out.hb 1 _ rfl
    have HM2 := Bx.mk H2.out.map
    have NM : Bx (Maps.size D < maxLen) := ⟨by have h1 := V2.out.size; have h2 := V2.out.le; have h3 := H1024.out; unfold maxLen; omega⟩
    have IW := Bx.mk (show (Lit.int .i64 (i : Int)).wf = true by have h1 := IL.out; have h2 := V2.out.bnd; have h3 := H1024.out; simp [Lit.wf, IntKind.min, IntKind.max, IntKind.signed, IntKind.bits]; omega)
    go_wp2_with (at_mapUpdate; refine wpList_mapUpdate_in _ rfl _ _ _ 50 rfl 9 3 lawS Tryd.underlying50 _ bm (Maps.size D) D rfl HM2.out NM.out _ _ _ rfl rfl HKEY.out _ [] (plainElem_int Tryd.underlying3 IW.out) ?_; intro w22 hm22 ht22; have M3 := Bx.mk (H2.out.turnM ht22 hm22); have K3 := Bx.mk (K2.out.trans (mapTurned_keep ht22) (fun j hj h => .inr (.inl h))); clear hm22 ht22 H2 K2 c1)
    refine (first_anyS base w22 r bm most _ g2 n2 c2' _ [] sf _ M3.out i (by rw [setKV_len]; exact IL.out) (by rw [setKV_len]; exact FB.out)).mono ?_
    rintro e w23 ⟨rfl, cur5, m5, k5⟩
    have M5 := Bx.mk m5; have K5 := Bx.mk (K3.out.trans k5 (fun j hj h => (by rcases HG2.out with e | e; exact .inr (.inr (.inl (h.trans e))); omega)))
    clear m5 k5 M3 K3
    go_wp2_with fail
    go_ret2
    refine ⟨rfl, CaB r bm g2 sf, ⟨H1024.out, bm, _, g2, _, _, cur5, _, sf, _, _, M5.out, VA.out, fun k => Iff.rfl⟩, K5.out.mono (fun j _ hj => (HB.out j).2 (by rw [HSF.out] at hj; exact hj)), fun k hk => ?_⟩
    rcases hk with h | h | h | h
    · exact .inl ((HB.out k).2 (.inl h))
    · exact .inl ((HB.out k).2 (.inr (.inl h)))
    · rcases HG2.out with e | e
      · exact .inl ((HB.out k).2 (.inr (.inr (.inl (h.trans e)))))
      · exact .inr (by omega)
    · exact .inl ((HB.out k).2 (.inr (.inr (.inr h))))
  · rw [List.concat_eq_append] at hfr
    subst hfr
    have FSUBb : Bx (∀ j, j < w.heap.size → sf.ownBlock = some j → CaB r bm g sf0 j) := ⟨fun j _ h => .inr (.inr (.inr (by rw [hsf0]; exact h)))⟩
    have HSF := Bx.mk hsf0
    clear c2 c3f hsf
    obtain ⟨m3, hm3⟩ : ∃ m3, m3 = fr0.length := ⟨_, rfl⟩
    have hfre := M1.out.fre
    rw [show (fr0 ++ [i]).length = m3 + 1 by rw [List.length_append, hm3]; rfl] at hfre
    obtain ⟨g3, c3, cur3, hsf3, hR3⟩ := row_someS hfre
    have hrb := M1.out.hb
    rw [hsf3] at hrb
    have c2f := er_cellAt hrb 2 _ rfl
    have c3f := er_cellAt hrb 3 _ rfl
    have ci := hR3.cell (i := m3) (v := .int .i64 (i : Int)) (by rw [hm3]; simp)
    have f3r := frozenC hrb 3
    have MB3 : m3 ≤ 1025 := by have h1 := HV.out.tot; have h2 := HV.out.bnd; have h3 := H1024.out; rw [List.length_append, ← hm3] at h1; omega
    have f1 : (0 : Int) < (m3 : Int) + 1 := by omega
    have f2 : (m3 : Int) < (m3 : Int) + 1 := by omega
    have f4 : (m3 : Int) ≤ (c3 : Int) := by have := hR3.nc; omega
    have hgr : g3 ≠ r := fun e => by
      have h1 := hR3.hb
      rw [e, M1.out.hb] at h1
      injection h1 with h1; injection h1 with _ h1; exact absurd h1 (by decide)
    obtain ⟨sf4, hsf4⟩ : ∃ s, s = Value.slice (some ⟨g3, 0, none⟩) m3 c3 := ⟨_, rfl⟩
    have k7 : Keep (fun j => j = r ∨ sf.ownBlock = some j) W1 (W1.setCell ⟨r, 3, none⟩ sf4) := (Keep.setCell W1 ⟨r, 3, none⟩ _).mono (S' := fun j => j = r ∨ sf.ownBlock = some j) (fun j _ h => .inl h)
    have hr7 : (W1.setCell ⟨r, 3, none⟩ sf4).heap[r]? = some (.cells #[.int .i64 (most : Int), .map (some bm), .slice (some ⟨g, 0, none⟩) n c, sf4] 54 (0, 0)) := by simp [World.setCell, Array.getElem?_modify, M1.out.hb]
    have hrow7 := (hR3.kept (w' := W1.setCell ⟨r, 3, none⟩ sf4) (by simp [World.setCell, Array.getElem?_modify, Ne.symm hgr])).shorter
    rw [Nat.mul_one, show ((fr0 ++ [i]).map fun (j : Nat) => Value.int .i64 (j : Int)).take m3 = fr0.map fun (j : Nat) => Value.int .i64 (j : Int) by rw [List.map_append, List.take_append_of_le_length (by rw [List.length_map]; omega), List.take_of_length_le (by rw [List.length_map]; omega)], ← hsf4] at hrow7
    have hrow8 : (W1.setCell ⟨r, 3, none⟩ sf4).ownsRow base 3 1 sf4 fr0.length (fr0.map fun (j : Nat) => .int .i64 (j : Int)) := by rw [← hm3]; exact hrow7
    have M2 := Bx.mk (M1.out.free hr7 k7 hrow8)
    have K2a := Bx.mk (K1.out.trans k7 (fun j hj h => by rcases h with h | h; exact .inl h; exact FSUBb.out j hj h))
    have OB4 : Bx (sf4.ownBlock = sf.ownBlock) := ⟨by rw [hsf4, hsf3]; rfl⟩
    clear k7 hr7 hrow7 hrow8 hfre hR3 hrb hgr hm3 hsf3 M1 K1
    have HS4 := Bx.mk hsf4
    clear hsf4
    go_upto_region 21 with (fail)
    clear c2f c3f ci f3r f1 f2 f4 MB3
    rw [← HS4.out]
    generalize W1.setCell ⟨r, 3, none⟩ sf4 = W4 at M2 K2a ⊢
    have XR := Bx.mk M2.out.hb; have GL := Bx.mk (Array.getElem?_eq_some_iff.1 M2.out.row.hb).1; have RL := Bx.mk M2.out.apart.1
    obtain ⟨hb0, il, va⟩ := CaV.add injS keylitS (fr := fr0) (i := i) HV.out x HKW.out HX.out HLT.out
    have VA := Bx.mk va; have IL := Bx.mk il; have FB := Bx.mk hb0; have IN := Bx.mk (show i < n by rw [M2.out.nl]; exact il)
    clear va il hb0
    go_upto_region 21 with (fail)
    refine wp_region_last (n := 149) (m := 17) VSp21bmk (fun k => if k = g then some 14 else none) (VSp21b r g n c i cur k x) (by kernel_rfl) (by kernel_rfl) rfl rfl (by kernel_rfl) (fun k hk => if_neg (by have := GL.out; omega)) (fun j i hj _ => by cases hj) ?_ ?_ ?_
    · exact fun oi oj v own w own' w' hij _ h r1 => VSp21b_mono r g n c i cur k x oi oj v own w own' w' hij h r1
    · intro oi o hltm hi f u own hsame hsn hfr hlate hkeep8 hdep
      have hkeep := hkeep8 _ (.inl rfl)
      have hk6 := hsn.keepOne
      match oi, hi with
      | 0, hi =>
        cases (show some _ = some o from hi)
        have e0 : f.tmps.getD 0 undef = .pointer (some ⟨r, 0, none⟩) := hsame.slot 0 (fun i o h => invB2_not 0 (by kernel_rfl) h)
        clear hdep hsame hi hlate hfr hkeep
        exact .inl ⟨wanted_none rfl, showsO_move hsn rfl _ rfl e0⟩
      | 1, hi =>
        cases (show some _ = some o from hi)
        have e122 : (f.tmps.getD 122 undef) = .pointer (some ⟨r, 0, none⟩) := depO (V := (VSp21b r g n c i cur k x)) hdep 0 122 (by kernel_rfl) (by kernel_rfl)
        clear hdep hsame hi hlate hfr hkeep
        exact .inl ⟨wanted_none rfl, showsO_pure hsn rfl (.pointer (some ⟨r, 0, none⟩)) (by simp only [execOp, Act.eval]; go_simp) rfl⟩
      | 2, hi =>
        cases (show some _ = some o from hi)
        have e123 : (f.tmps.getD 123 undef) = .pointer (some ⟨r, 0, none⟩) := depO (V := (VSp21b r g n c i cur k x)) hdep 1 123 (by kernel_rfl) (by kernel_rfl)
        clear hdep hsame hi hlate hfr hkeep
        exact .inl ⟨wanted_none rfl, showsO_pure hsn rfl (.pointer (some ⟨r, 2, none⟩)) (by simp only [execOp, Act.eval]; go_simp) rfl⟩
      | 3, hi =>
        cases (show some _ = some o from hi)
        have e124 : (f.tmps.getD 124 undef) = .pointer (some ⟨r, 2, none⟩) := depO (V := (VSp21b r g n c i cur k x)) hdep 2 124 (by kernel_rfl) (by kernel_rfl)
        clear hdep hsame hi hlate hfr hkeep
        have c125 := er_cellAt ((hk6.block _ (Array.getElem?_eq_some_iff.1 XR.out).1 RL.out).trans XR.out) 2 _ rfl
        exact .inl ⟨wanted_none rfl, showsO_pure hsn rfl (.slice (some ⟨g, 0, none⟩) n c) (by simp only [execOp, Act.eval]; go_simp) rfl⟩
      | 4, hi =>
        cases (show some _ = some o from hi)
        have e11 : f.tmps.getD 11 undef = .int .i64 (i : Int) := hsame.slot 11 (fun i o h => invB2_not 11 (by kernel_rfl) h)
        clear hdep hsame hi hlate hfr hkeep
        exact .inl ⟨wanted_none rfl, showsO_move hsn rfl _ rfl e11⟩
      | 5, hi =>
        cases (show some _ = some o from hi)
        have e0 : f.tmps.getD 0 undef = .pointer (some ⟨r, 0, none⟩) := hsame.slot 0 (fun i o h => invB2_not 0 (by kernel_rfl) h)
        clear hdep hsame hi hlate hfr hkeep
        exact .inl ⟨wanted_none rfl, showsO_move hsn rfl _ rfl e0⟩
      | 6, hi =>
        cases (show some _ = some o from hi)
        have e127 : (f.tmps.getD 127 undef) = .pointer (some ⟨r, 0, none⟩) := depO (V := (VSp21b r g n c i cur k x)) hdep 5 127 (by kernel_rfl) (by kernel_rfl)
        clear hdep hsame hi hlate hfr hkeep
        exact .inl ⟨wanted_none rfl, showsO_pure hsn rfl (.pointer (some ⟨r, 0, none⟩)) (by simp only [execOp, Act.eval]; go_simp) rfl⟩
      | 7, hi =>
        cases (show some _ = some o from hi)
        have e128 : (f.tmps.getD 128 undef) = .pointer (some ⟨r, 0, none⟩) := depO (V := (VSp21b r g n c i cur k x)) hdep 6 128 (by kernel_rfl) (by kernel_rfl)
        clear hdep hsame hi hlate hfr hkeep
        exact .inl ⟨wanted_none rfl, showsO_pure hsn rfl (.pointer (some ⟨r, 2, none⟩)) (by simp only [execOp, Act.eval]; go_simp) rfl⟩
      | 8, hi =>
        cases (show some _ = some o from hi)
        have e129 : (f.tmps.getD 129 undef) = .pointer (some ⟨r, 2, none⟩) := depO (V := (VSp21b r g n c i cur k x)) hdep 7 129 (by kernel_rfl) (by kernel_rfl)
        clear hdep hsame hi hlate hfr hkeep
        have c130 := er_cellAt ((hk6.block _ (Array.getElem?_eq_some_iff.1 XR.out).1 RL.out).trans XR.out) 2 _ rfl
        exact .inl ⟨wanted_none rfl, showsO_pure hsn rfl (.slice (some ⟨g, 0, none⟩) n c) (by simp only [execOp, Act.eval]; go_simp) rfl⟩
      | 9, hi =>
        cases (show some _ = some o from hi)
        have e11 : f.tmps.getD 11 undef = .int .i64 (i : Int) := hsame.slot 11 (fun i o h => invB2_not 11 (by kernel_rfl) h)
        clear hdep hsame hi hlate hfr hkeep
        exact .inl ⟨wanted_none rfl, showsO_move hsn rfl _ rfl e11⟩
      | 10, hi =>
        cases (show some _ = some o from hi)
        have e1 : f.tmps.getD 1 undef = .string k := hsame.slot 1 (fun i o h => invB2_not 1 (by kernel_rfl) h)
        clear hdep hsame hi hlate hfr hkeep
        exact .inl ⟨wanted_none rfl, showsO_move hsn rfl _ rfl e1⟩
      | 11, hi =>
        cases (show some _ = some o from hi)
        have e2 : f.tmps.getD 2 undef = .int .i64 x := hsame.slot 2 (fun i o h => invB2_not 2 (by kernel_rfl) h)
        clear hdep hsame hi hlate hfr hkeep
        exact .inl ⟨wanted_none rfl, showsO_move hsn rfl _ rfl e2⟩
      | 12, hi =>
        cases (show some _ = some o from hi)
        have e125 : (f.tmps.getD 125 undef) = .slice (some ⟨g, 0, none⟩) n c := depO (V := (VSp21b r g n c i cur k x)) hdep 3 125 (by kernel_rfl) (by kernel_rfl)
        have e126 : (f.tmps.getD 126 undef) = .int .i64 (i : Int) := depO (V := (VSp21b r g n c i cur k x)) hdep 4 126 (by kernel_rfl) (by kernel_rfl)
        clear hdep hsame hi hlate hfr hkeep
        have f2 : ¬ (n : Int) ≤ (i : Int) := by have := IN.out; omega
        have f3 : (i : Int) < (n : Int) := by have := IN.out; omega
        exact .inl ⟨wanted_none rfl, showsO_pure hsn rfl (.pointer (some ⟨g, i * 4, none⟩)) (by simp only [execOp, Act.eval]; go_simp) rfl⟩
      | 13, hi =>
        cases (show some _ = some o from hi)
        have e134 : (f.tmps.getD 134 undef) = .pointer (some ⟨g, i * 4, none⟩) := depO (V := (VSp21b r g n c i cur k x)) hdep 12 134 (by kernel_rfl) (by kernel_rfl)
        clear hdep hsame hi hlate hfr hkeep
        exact .inl ⟨wanted_none rfl, showsO_pure hsn rfl (.pointer (some ⟨g, i * 4, none⟩)) (by simp only [execOp, Act.eval]; go_simp) rfl⟩
      | 14, hi =>
        cases (show some _ = some o from hi)
        have e132 : (f.tmps.getD 132 undef) = .string k := depO (V := (VSp21b r g n c i cur k x)) hdep 10 132 (by kernel_rfl) (by kernel_rfl)
        have e135 : (f.tmps.getD 135 undef) = .pointer (some ⟨g, i * 4, none⟩) := depO (V := (VSp21b r g n c i cur k x)) hdep 13 135 (by kernel_rfl) (by kernel_rfl)
        clear hdep hsame hi hlate hfr hkeep
        have hg := M2.out.row.kept (hkeep8 14 (.inl rfl) g GL.out (if_pos rfl))
        have cc := hg.cell (icells_keyS M2.out.sz (j := i) IL.out)
        have ff := frozenC hg.hb (i * 4)
        exact .inl ⟨wanted_none rfl, showsO_store_cell hsn hkeep8 rfl g (i * 4 + 0) cur 87 M2.out.row.hb (if_pos rfl) (.string k) (by simp only [execOp, Act.eval]; go_simp) (fun h => h)⟩
      | 15, hi =>
        cases (show some _ = some o from hi)
        have e130 : (f.tmps.getD 130 undef) = .slice (some ⟨g, 0, none⟩) n c := depO (V := (VSp21b r g n c i cur k x)) hdep 8 130 (by kernel_rfl) (by kernel_rfl)
        have e131 : (f.tmps.getD 131 undef) = .int .i64 (i : Int) := depO (V := (VSp21b r g n c i cur k x)) hdep 9 131 (by kernel_rfl) (by kernel_rfl)
        clear hdep hsame hi hlate hfr hkeep
        have f2 : ¬ (n : Int) ≤ (i : Int) := by have := IN.out; omega
        have f3 : (i : Int) < (n : Int) := by have := IN.out; omega
        exact .inl ⟨wanted_none rfl, showsO_pure hsn rfl (.pointer (some ⟨g, i * 4, none⟩)) (by simp only [execOp, Act.eval]; go_simp) rfl⟩
      | 16, hi =>
        cases (show some _ = some o from hi)
        have e136 : (f.tmps.getD 136 undef) = .pointer (some ⟨g, i * 4, none⟩) := depO (V := (VSp21b r g n c i cur k x)) hdep 15 136 (by kernel_rfl) (by kernel_rfl)
        clear hdep hsame hi hlate hfr hkeep
        exact .inl ⟨wanted_none rfl, showsO_pure hsn rfl (.pointer (some ⟨g, i * 4 + 1, none⟩)) (by simp only [execOp, Act.eval]; go_simp) rfl⟩
      | n + 17, hi => exact absurd hltm (by omega)
    intro o ho fr u1 own hsame hsn hla hall
    cases (show some _ = some o from ho)
    have q122 : fr.tmps.getD 122 undef = .pointer (some ⟨r, 0, none⟩) := finL (V := (VSp21b r g n c i cur k x)) hall 0 122 (by decide) rfl
    have q123 : fr.tmps.getD 123 undef = .pointer (some ⟨r, 0, none⟩) := finL (V := (VSp21b r g n c i cur k x)) hall 1 123 (by decide) rfl
    have q124 : fr.tmps.getD 124 undef = .pointer (some ⟨r, 2, none⟩) := finL (V := (VSp21b r g n c i cur k x)) hall 2 124 (by decide) rfl
    have q125 : fr.tmps.getD 125 undef = .slice (some ⟨g, 0, none⟩) n c := finL (V := (VSp21b r g n c i cur k x)) hall 3 125 (by decide) rfl
    have q126 : fr.tmps.getD 126 undef = .int .i64 (i : Int) := finL (V := (VSp21b r g n c i cur k x)) hall 4 126 (by decide) rfl
    have q127 : fr.tmps.getD 127 undef = .pointer (some ⟨r, 0, none⟩) := finL (V := (VSp21b r g n c i cur k x)) hall 5 127 (by decide) rfl
    have q128 : fr.tmps.getD 128 undef = .pointer (some ⟨r, 0, none⟩) := finL (V := (VSp21b r g n c i cur k x)) hall 6 128 (by decide) rfl
    have q129 : fr.tmps.getD 129 undef = .pointer (some ⟨r, 2, none⟩) := finL (V := (VSp21b r g n c i cur k x)) hall 7 129 (by decide) rfl
    have q130 : fr.tmps.getD 130 undef = .slice (some ⟨g, 0, none⟩) n c := finL (V := (VSp21b r g n c i cur k x)) hall 8 130 (by decide) rfl
    have q131 : fr.tmps.getD 131 undef = .int .i64 (i : Int) := finL (V := (VSp21b r g n c i cur k x)) hall 9 131 (by decide) rfl
    have q132 : fr.tmps.getD 132 undef = .string k := finL (V := (VSp21b r g n c i cur k x)) hall 10 132 (by decide) rfl
    have q133 : fr.tmps.getD 133 undef = .int .i64 x := finL (V := (VSp21b r g n c i cur k x)) hall 11 133 (by decide) rfl
    have q134 : fr.tmps.getD 134 undef = .pointer (some ⟨g, i * 4, none⟩) := finL (V := (VSp21b r g n c i cur k x)) hall 12 134 (by decide) rfl
    have q135 : fr.tmps.getD 135 undef = .pointer (some ⟨g, i * 4, none⟩) := finL (V := (VSp21b r g n c i cur k x)) hall 13 135 (by decide) rfl
    obtain ⟨o_14, m_14⟩ : OutV own u1 (g) 14 87 (cur.setIfInBounds (i * 4 + 0) (.string k)) := finLN (V := (VSp21b r g n c i cur k x)) hall 14 (by decide) rfl
    have q136 : fr.tmps.getD 136 undef = .pointer (some ⟨g, i * 4, none⟩) := finL (V := (VSp21b r g n c i cur k x)) hall 15 136 (by decide) rfl
    have q137 : fr.tmps.getD 137 undef = .pointer (some ⟨g, i * 4 + 1, none⟩) := finL (V := (VSp21b r g n c i cur k x)) hall 16 137 (by decide) rfl
    obtain rfl := frame_eq hsame [(122, .pointer (some ⟨r, 0, none⟩)), (123, .pointer (some ⟨r, 0, none⟩)), (124, .pointer (some ⟨r, 2, none⟩)), (125, .slice (some ⟨g, 0, none⟩) n c), (126, .int .i64 (i : Int)), (127, .pointer (some ⟨r, 0, none⟩)), (128, .pointer (some ⟨r, 0, none⟩)), (129, .pointer (some ⟨r, 2, none⟩)), (130, .slice (some ⟨g, 0, none⟩) n c), (131, .int .i64 (i : Int)), (132, .string k), (133, .int .i64 x), (134, .pointer (some ⟨g, i * 4, none⟩)), (135, .pointer (some ⟨g, i * 4, none⟩)), (136, .pointer (some ⟨g, i * 4, none⟩)), (137, .pointer (some ⟨g, i * 4 + 1, none⟩))] (by kernel_rfl) ⟨q122, q123, q124, q125, q126, q127, q128, q129, q130, q131, q132, q133, q134, q135, q136, q137, trivial⟩
    clear hall hsame q122 q123 q124 q125 q126 q127 q128 q129 q130 q131 q132 q133 q134 q135 q136 q137
    simp only [List.foldl, List.setIfInBounds_toArray, List.set_cons_succ, List.set_cons_zero]
    have hk6 := hsn.keepOne
    have hrow1 := M2.out.row.set (i * 4 + 0) (.string k) m_14
    rw [icells_setKS M2.out.sz] at hrow1
    have H1 := M2.out.turnG hk6 hrow1 (setK_lenS _ _ _) (M2.out.sz.setKS _ _)
    have cc := H1.row.cell (icells_valS H1.sz (j := i) (by rw [setK_lenS]; exact IL.out))
    have ff := frozenC H1.row.hb (i * 4 + 1)
    have hk : Keep (fun j => j = g) u1 (u1.setCell ⟨g, i * 4 + 1, none⟩ (.int .i64 x)) := Keep.setCell u1 ⟨g, i * 4 + 1, none⟩ _
    have hrow := H1.row.setW (i * 4 + 1) (.int .i64 x)
    rw [icells_setVS H1.sz, setK_setVS] at hrow
    have K2 := Bx.mk (K2a.out.trans (hk6.trans hk (fun _ _ h => h)) (fun j hj h => .inr (.inr (.inl h))))
    have H2 := Bx.mk (H1.turnG hk hrow (by rw [setKV_len, setK_lenS]) (by have := (H1.sz.setVS i x); rwa [setK_setVS] at this))
    refine ⟨wanted_none rfl, last_skipS (w' := u1.setCell ⟨g, i * 4 + 1, none⟩ (.int .i64 x)) rfl (by simp only [execOp, Act.eval]; go_simp) ?_⟩
    clear cc ff hrow hk H1 hrow1 hk6 hsn hla ho m_14 o_14 XR M2 K2a
    generalize u1.setCell ⟨g, i * 4 + 1, none⟩ (.int .i64 x) = W21 at H2 K2 ⊢
    have c1 := er_cellAt H2.out.hb 1 _ rfl
    have HM2 := Bx.mk H2.out.map
    have NM : Bx (Maps.size D < maxLen) := ⟨by have h1 := HV.out.size; have h2 := HV.out.le; have h3 := H1024.out; unfold maxLen; omega⟩
    have IW := Bx.mk (show (Lit.int .i64 (i : Int)).wf = true by have h1 := IL.out; have h2 := HV.out.bnd; have h3 := H1024.out; simp [Lit.wf, IntKind.min, IntKind.max, IntKind.signed, IntKind.bits]; omega)
    go_wp2_with (at_mapUpdate; refine wpList_mapUpdate_in _ rfl _ _ _ 50 rfl 9 3 lawS Tryd.underlying50 _ bm (Maps.size D) D rfl HM2.out NM.out _ _ _ rfl rfl HKEY.out _ [] (plainElem_int Tryd.underlying3 IW.out) ?_; intro w22 hm22 ht22; have M3 := Bx.mk (H2.out.turnM ht22 hm22); have K3 := Bx.mk (K2.out.trans (mapTurned_keep ht22) (fun j hj h => .inr (.inl h))); clear hm22 ht22 H2 K2 c1)
    refine (first_anyS base w22 r bm most _ g n c _ fr0 sf4 _ M3.out i (by rw [setKV_len]; exact IL.out) (by rw [setKV_len]; exact FB.out)).mono ?_
    rintro e w23 ⟨rfl, cur5, m5, k5⟩
    have M5 := Bx.mk m5; have K5 := Bx.mk (K3.out.trans k5 (fun j hj h => .inr (.inr (.inl h))))
    clear m5 k5 M3 K3
    go_wp2_with fail
    go_ret2
    refine ⟨rfl, CaB r bm g sf4, ⟨H1024.out, bm, _, g, _, _, cur5, _, sf4, _, _, M5.out, VA.out, fun k => Iff.rfl⟩, K5.out.mono (fun j _ hj => (HB.out j).2 (by rw [HSF.out] at hj; exact hj)), fun k hk => ?_⟩
    rcases hk with h | h | h | h
    · exact .inl ((HB.out k).2 (.inl h))
    · exact .inl ((HB.out k).2 (.inr (.inl h)))
    · exact .inl ((HB.out k).2 (.inr (.inr (.inl h))))
    · exact .inl ((HB.out k).2 (.inr (.inr (.inr (by rw [← OB4.out]; exact h)))))
def VSp11f (r bm most L : Nat) (oi : Nat) (v : Value) (_own : Nat → Option Nat) (_w : World) : Prop :=
  match oi with
  | 0 => v = .pointer (some ⟨r, 0, none⟩)
  | 1 => v = .pointer (some ⟨r, 0, none⟩)
  | 2 => v = .pointer (some ⟨r, 1, none⟩)
  | 3 => v = .map (some bm)
  | 4 => v = .int .i64 (L : Int)
  | 5 => v = .pointer (some ⟨r, 0, none⟩)
  | 6 => v = .pointer (some ⟨r, 0, none⟩)
  | 7 => v = .pointer (some ⟨r, 0, none⟩)
  | 8 => v = .int .i64 (most : Int)
  | 9 => v = .bool true
  | _ => True
def VSp11fmk : Nat → Option Nat := fun _ => none
theorem VSp11f_mono (r bm most L : Nat) (oi oj : Nat) (v : Value) (own : Nat → Option Nat) (w : World) (own' : Nat → Option Nat) (w' : World) (hij : oi ≠ oj)   (h : VSp11f r bm most L oj v own w) (_r1 : Rel VSp11fmk oi own w own' w') : VSp11f r bm most L oj v own' w' := by
  unfold VSp11f at h ⊢
  split at h
  · exact h
  · exact h
  · exact h
  · exact h
  · exact h
  · exact h
  · exact h
  · exact h
  · exact h
  · exact h
  · trivial

def VSp21f (r g n c i : Nat) (cur1 : Array Value) (k : ByteArray) (x : Int) (oi : Nat) (v : Value) (own : Nat → Option Nat) (w : World) : Prop :=
  match oi with
  | 0 => v = .pointer (some ⟨r, 0, none⟩)
  | 1 => v = .pointer (some ⟨r, 0, none⟩)
  | 2 => v = .pointer (some ⟨r, 2, none⟩)
  | 3 => v = .slice (some ⟨g, 0, none⟩) n c
  | 4 => v = .int .i64 (i : Int)
  | 5 => v = .pointer (some ⟨r, 0, none⟩)
  | 6 => v = .pointer (some ⟨r, 0, none⟩)
  | 7 => v = .pointer (some ⟨r, 2, none⟩)
  | 8 => v = .slice (some ⟨g, 0, none⟩) n c
  | 9 => v = .int .i64 (i : Int)
  | 10 => v = .string k
  | 11 => v = .int .i64 x
  | 12 => v = .pointer (some ⟨g, i * 4, none⟩)
  | 13 => v = .pointer (some ⟨g, i * 4, none⟩)
  | 14 => OutV own w (g) 14 87 (cur1.setIfInBounds (i * 4 + 0) (.string k))
  | 15 => v = .pointer (some ⟨g, i * 4, none⟩)
  | 16 => v = .pointer (some ⟨g, i * 4 + 1, none⟩)
  | _ => True
def VSp21fmk : Nat → Option Nat := fun _ => none
theorem VSp21f_mono (r g n c i : Nat) (cur1 : Array Value) (k : ByteArray) (x : Int) (oi oj : Nat) (v : Value) (own : Nat → Option Nat) (w : World) (own' : Nat → Option Nat) (w' : World) (hij : oi ≠ oj)   (h : VSp21f r g n c i cur1 k x oj v own w) (r1 : Rel VSp21fmk oi own w own' w') : VSp21f r g n c i cur1 k x oj v own' w' := by
  unfold VSp21f at h ⊢
  split at h
  · exact h
  · exact h
  · exact h
  · exact h
  · exact h
  · exact h
  · exact h
  · exact h
  · exact h
  · exact h
  · exact h
  · exact h
  · exact h
  · exact h
  · exact h.stable r1 hij
  · exact h
  · exact h
  · trivial

set_option maxHeartbeats 4000000 in
theorem put_fullS (base : Nat) (w : World) (r most : Nat) (es0 : List (ByteArray × Int)) (y : ByteArray × Int) (B : Nat → Prop) (hbase : base ≤ w.heap.size) (h : CaXS base w r most (es0 ++ [y]) B) (k : ByteArray) (hk : kwS k) (x : Int) (hx : k ∉ (es0 ++ [y]).map (·.1)) (hfull : (es0 ++ [y]).length = most) :
    Calls Tryd.prog 13 #[.pointer (some ⟨r, 0, none⟩), .string k, .int .i64 x] w fun e w' => e = .returned (.tuple #[.string y.1, .bool true]) ∧ CaTS base w w' r most ((k, x) :: es0) B := by
  obtain ⟨h0, bm, its, g, n, c, cur, fr, sf, D, o, m, v, hB⟩ := h
  have HKEY := Bx.mk (keyS hk)
  have c1 := er_cellAt m.hb 1 _ rfl
  have hmn := fun w => run_eql_map_nil (P := Tryd.prog) w 50 9 3 (some bm) Tryd.underlying50
  have HM := Bx.mk m.map; have HMM := Bx.mk m; have HV := Bx.mk v; have HB := Bx.mk hB; have HBS := Bx.mk hbase; have H1024 := Bx.mk h0
  have hh : Maps.has D (klS k) = false := by
    cases e : Maps.has D (klS k) with
    | false => rfl
    | true => exact absurd ((v.has k hk).1 e) hx
  have c0 := er_cellAt m.hb 0 _ rfl
  have HKW := Bx.mk hk
  have hle : es0.length + 1 = most := by rw [← hfull]; simp
  have HX := Bx.mk (show k ∉ es0.map (·.1) from fun h => hx (by rw [List.map_append]; exact List.mem_append.2 (.inl h))); have HLT := Bx.mk (show es0.length < most by omega)
  have XR0 := Bx.mk m.hb; have HSZ0 := v.size
  obtain ⟨L, hL⟩ : ∃ L, L = (es0 ++ [y]).length := ⟨_, rfl⟩
  rw [← hL] at HSZ0
  have HSZ := Bx.mk HSZ0
  have LNE := Bx.mk (show L = most by rw [hL]; exact hfull)
  have f0 : ¬ (most : Int) = 0 := by omega
  have f0b : ((most : Int) == 0) = false := beq_eq_false_iff_ne.2 f0
  have f0c : (most == 0) = false := beq_eq_false_iff_ne.2 (by omega)
  have ht : es0.length < (es0 ++ [y]).length := by simp
  have hto : es0.length < o.length := by rw [v.len]; exact ht
  have hye : (es0 ++ [y])[es0.length] = y := by simp
  have hkt := v.kvt ht
  rw [hye] at hkt
  have hlast : nwF its 0 = o[es0.length] := by
    rw [v.ord.last]
    have hl := v.len
    rcases List.eq_nil_or_concat o with h1 | ⟨q, z, h1⟩
    · rw [h1] at hto; simp at hto
    · rw [List.concat_eq_append] at h1
      subst h1
      have h2 : q.length = es0.length := by simpa using hl
      simp [← h2]
  have cr0 : ∀ w1, Below w.heap.size w w1 → _ := fun w1 hb1 => remove_anyS base w1 r bm most its g n c cur fr sf D (m.below hb1) o (es0 ++ [y]) h0 v es0.length ht hto (Nat.le_trans hbase hb1.size)
  obtain ⟨l1, l2, l3⟩ := v.lt hto
  obtain ⟨i, hi⟩ : ∃ i, i = o[es0.length] := ⟨_, rfl⟩
  have hee : (es0 ++ [y]).eraseIdx es0.length = es0 := by rw [List.eraseIdx_append_of_length_le (Nat.le_refl _)]; simp
  rw [← hi] at hlast hkt l1
  simp only [hye, hee, ← hi] at cr0
  have CR := Bx.mk cr0; have KT0 := Bx.mk hkt; have LI := Bx.mk l1; have LA := Bx.mk hlast; have P0 := Bx.mk v.ord.pos
  have HSF := Bx.mk (rfl : sf = sf)
  clear m v hB hx hk h0 hL hle hbase HSZ0 ht hto hye hkt hlast cr0 l1 l2 l3 hi hee hfull
  go_enter Tryd.func13, Tryd.ntmps13
  go_upto_region 11 with (at_lookup; refine wpList_lookup_own_ok_int _ rfl _ _ 50 rfl 9 3 .i64 lawS Tryd.underlying50 Tryd.underlying3 (zeroES _) bm (Maps.size D) D rfl HM.out _ _ rfl HKEY.out ?_; intro ci hat hwc; have HAT := Bx.mk hat; clear hat hwc)
  clear c0 c1 f0 f0b f0c
  refine wp_region_own8 (n := 149) VSp11fmk (fun _ => none) (VSp11f r bm most L) (by kernel_rfl) (by kernel_rfl) rfl (fun _ _ => rfl) (fun j i hj _ => by cases hj) ?_ ?_ ?_
  · exact fun oi oj v own w own' w' hij _ h r1 => VSp11f_mono r bm most L oi oj v own w own' w' hij h r1
  · intro oi o hi f u own hsame hsn hfr hlate hkeep8 hdep
    have hkeep := hkeep8 _ (.inl rfl)
    have hb6 := hsn.below (B := w.heap.size) (fun _ _ => rfl) (Nat.le_refl _)
    match oi, hi with
    | 0, hi =>
      cases (show some _ = some o from hi)
      have e0 : f.tmps.getD 0 undef = .pointer (some ⟨r, 0, none⟩) := hsame.slot 0 (fun i o h => invB2_not 0 (by kernel_rfl) h)
      clear hdep hsame hi hlate hfr hkeep
      exact .inl ⟨wanted_none rfl, showsO_move hsn rfl _ rfl e0⟩
    | 1, hi =>
      cases (show some _ = some o from hi)
      have e54 : (f.tmps.getD 54 undef) = .pointer (some ⟨r, 0, none⟩) := depO (V := (VSp11f r bm most L)) hdep 0 54 (by kernel_rfl) (by kernel_rfl)
      clear hdep hsame hi hlate hfr hkeep
      exact .inl ⟨wanted_none rfl, showsO_pure hsn rfl (.pointer (some ⟨r, 0, none⟩)) (by simp only [execOp, Act.eval]; go_simp) rfl⟩
    | 2, hi =>
      cases (show some _ = some o from hi)
      have e55 : (f.tmps.getD 55 undef) = .pointer (some ⟨r, 0, none⟩) := depO (V := (VSp11f r bm most L)) hdep 1 55 (by kernel_rfl) (by kernel_rfl)
      clear hdep hsame hi hlate hfr hkeep
      exact .inl ⟨wanted_none rfl, showsO_pure hsn rfl (.pointer (some ⟨r, 1, none⟩)) (by simp only [execOp, Act.eval]; go_simp) rfl⟩
    | 3, hi =>
      cases (show some _ = some o from hi)
      have e56 : (f.tmps.getD 56 undef) = .pointer (some ⟨r, 1, none⟩) := depO (V := (VSp11f r bm most L)) hdep 2 56 (by kernel_rfl) (by kernel_rfl)
      clear hdep hsame hi hlate hfr hkeep
      have c57 := er_cellAt ((hb6.block _ (Array.getElem?_eq_some_iff.1 XR0.out).1).trans XR0.out) (1) _ rfl
      exact .inl ⟨wanted_none rfl, showsO_pure hsn rfl (.map (some bm)) (by simp only [execOp, Act.eval]; go_simp) rfl⟩
    | 4, hi =>
      cases (show some _ = some o from hi)
      have e57 : (f.tmps.getD 57 undef) = .map (some bm) := depO (V := (VSp11f r bm most L)) hdep 3 57 (by kernel_rfl) (by kernel_rfl)
      clear hdep hsame hi hlate hfr hkeep
      have hln := World.ownsMap.len (ownsMap_belowS HM.out hb6) Tryd.underlying50
      rw [HSZ.out] at hln
      exact .inl ⟨wanted_none rfl, showsO_pure hsn rfl (.int .i64 (L : Int)) (by simp only [execOp, Act.eval]; go_simp) rfl⟩
    | 5, hi =>
      cases (show some _ = some o from hi)
      have e0 : f.tmps.getD 0 undef = .pointer (some ⟨r, 0, none⟩) := hsame.slot 0 (fun i o h => invB2_not 0 (by kernel_rfl) h)
      clear hdep hsame hi hlate hfr hkeep
      exact .inl ⟨wanted_none rfl, showsO_move hsn rfl _ rfl e0⟩
    | 6, hi =>
      cases (show some _ = some o from hi)
      have e59 : (f.tmps.getD 59 undef) = .pointer (some ⟨r, 0, none⟩) := depO (V := (VSp11f r bm most L)) hdep 5 59 (by kernel_rfl) (by kernel_rfl)
      clear hdep hsame hi hlate hfr hkeep
      exact .inl ⟨wanted_none rfl, showsO_pure hsn rfl (.pointer (some ⟨r, 0, none⟩)) (by simp only [execOp, Act.eval]; go_simp) rfl⟩
    | 7, hi =>
      cases (show some _ = some o from hi)
      have e60 : (f.tmps.getD 60 undef) = .pointer (some ⟨r, 0, none⟩) := depO (V := (VSp11f r bm most L)) hdep 6 60 (by kernel_rfl) (by kernel_rfl)
      clear hdep hsame hi hlate hfr hkeep
      exact .inl ⟨wanted_none rfl, showsO_pure hsn rfl (.pointer (some ⟨r, 0, none⟩)) (by simp only [execOp, Act.eval]; go_simp) rfl⟩
    | 8, hi =>
      cases (show some _ = some o from hi)
      have e61 : (f.tmps.getD 61 undef) = .pointer (some ⟨r, 0, none⟩) := depO (V := (VSp11f r bm most L)) hdep 7 61 (by kernel_rfl) (by kernel_rfl)
      clear hdep hsame hi hlate hfr hkeep
      have c62 := er_cellAt ((hb6.block _ (Array.getElem?_eq_some_iff.1 XR0.out).1).trans XR0.out) (0) _ rfl
      exact .inl ⟨wanted_none rfl, showsO_pure hsn rfl (.int .i64 (most : Int)) (by simp only [execOp, Act.eval]; go_simp) rfl⟩
    | 9, hi =>
      cases (show some _ = some o from hi)
      have e58 : (f.tmps.getD 58 undef) = .int .i64 (L : Int) := depO (V := (VSp11f r bm most L)) hdep 4 58 (by kernel_rfl) (by kernel_rfl)
      have e62 : (f.tmps.getD 62 undef) = .int .i64 (most : Int) := depO (V := (VSp11f r bm most L)) hdep 8 62 (by kernel_rfl) (by kernel_rfl)
      clear hdep hsame hi hlate hfr hkeep
      obtain rfl : L = most := LNE.out
      exact .inl ⟨wanted_none rfl, showsO_pure hsn rfl (.bool true) (by simp only [execOp, Act.eval]; have := LNE.out; first | (go_simp; done) | (go_simp; omega) | (go_simp; simp; omega)) rfl⟩
    | n + 10, hi => exact absurd hi (by simp)
  intro fr W1 own hsame hsn hall
  have q54 : fr.tmps.getD 54 undef = .pointer (some ⟨r, 0, none⟩) := finO (V := (VSp11f r bm most L)) hall 0 54 rfl
  have q55 : fr.tmps.getD 55 undef = .pointer (some ⟨r, 0, none⟩) := finO (V := (VSp11f r bm most L)) hall 1 55 rfl
  have q56 : fr.tmps.getD 56 undef = .pointer (some ⟨r, 1, none⟩) := finO (V := (VSp11f r bm most L)) hall 2 56 rfl
  have q57 : fr.tmps.getD 57 undef = .map (some bm) := finO (V := (VSp11f r bm most L)) hall 3 57 rfl
  have q58 : fr.tmps.getD 58 undef = .int .i64 (L : Int) := finO (V := (VSp11f r bm most L)) hall 4 58 rfl
  have q59 : fr.tmps.getD 59 undef = .pointer (some ⟨r, 0, none⟩) := finO (V := (VSp11f r bm most L)) hall 5 59 rfl
  have q60 : fr.tmps.getD 60 undef = .pointer (some ⟨r, 0, none⟩) := finO (V := (VSp11f r bm most L)) hall 6 60 rfl
  have q61 : fr.tmps.getD 61 undef = .pointer (some ⟨r, 0, none⟩) := finO (V := (VSp11f r bm most L)) hall 7 61 rfl
  have q62 : fr.tmps.getD 62 undef = .int .i64 (most : Int) := finO (V := (VSp11f r bm most L)) hall 8 62 rfl
  have q63 : fr.tmps.getD 63 undef = .bool true := finO (V := (VSp11f r bm most L)) hall 9 63 rfl
  obtain rfl := frame_eq hsame [(54, .pointer (some ⟨r, 0, none⟩)), (55, .pointer (some ⟨r, 0, none⟩)), (56, .pointer (some ⟨r, 1, none⟩)), (57, .map (some bm)), (58, .int .i64 (L : Int)), (59, .pointer (some ⟨r, 0, none⟩)), (60, .pointer (some ⟨r, 0, none⟩)), (61, .pointer (some ⟨r, 0, none⟩)), (62, .int .i64 (most : Int)), (63, .bool true)] (by kernel_rfl) ⟨q54, q55, q56, q57, q58, q59, q60, q61, q62, q63, trivial⟩
  clear hall hsame q54 q55 q56 q57 q58 q59 q60 q61 q62 q63
  simp only [List.foldl, List.setIfInBounds_toArray, List.set_cons_succ, List.set_cons_zero]
  have hb := hsn.below (B := w.heap.size) (fun _ _ => rfl) (Nat.le_refl _)
  have M1 := Bx.mk (HMM.out.below hb); have K1 := Bx.mk (Keep.of_below hb (CaB r bm g sf)); have BL1 := Bx.mk hb
  have c2 := er_cellAt M1.out.hb 2 _ rfl
  have cz := M1.out.row.cell (icells_nw M1.out.sz (j := 0) P0.out)
  rw [LA.out, Nat.zero_mul, Nat.zero_add] at cz
  obtain ⟨-, ck⟩ := M1.out.value KT0.out
  have f0 : (0 : Int) < (n : Int) := by have h1 := P0.out; have h2 := M1.out.nl; omega
  have f3 : (i : Int) < (n : Int) := by have h1 := LI.out; have h2 := M1.out.nl; omega
  clear hb hsn XR0 HM HMM
  go_wp2_with fail
  refine (CR.out W1 BL1.out).mono ?_
  rintro e W2 ⟨rfl, cur1, sf1, m2, v2, k2, hs2⟩
  have K2 := Bx.mk (K1.out.trans k2 (fun _ _ h => h))
  have S2 : Bx (∀ k, sf1.ownBlock = some k → sf.ownBlock = some k ∨ w.heap.size ≤ k) := ⟨fun k hk => (hs2 k hk).imp id (fun h => Nat.le_trans BL1.out.size h)⟩
  obtain ⟨D2, hD2⟩ : ∃ D2, D2 = D.del (klS y.1) := ⟨_, rfl⟩
  rw [← hD2] at m2 v2
  have M2b := Bx.mk m2; have V2 := Bx.mk v2
  obtain ⟨fr0, rfl⟩ : ∃ q, q = fr := ⟨_, rfl⟩
  obtain ⟨sf0, hsf0⟩ : ∃ s, s = sf := ⟨_, rfl⟩
  rw [← hsf0] at K2
  have HSF := Bx.mk hsf0
  have FSUBf : Bx (∀ j, j < w.heap.size → sf1.ownBlock = some j → CaB r bm g sf0 j) := ⟨fun j hj h => .inr (.inr (.inr (by rw [hsf0]; rcases S2.out j h with h1 | h1; exact h1; omega)))⟩
  clear m2 v2 k2 hs2 CR M1 K1 c2 cz ck f0 f3 hsf0 hD2
  obtain ⟨m3, hm3⟩ : ∃ m3, m3 = fr0.length := ⟨_, rfl⟩
  have hfre := M2b.out.fre
  rw [show (fr0 ++ [i]).length = m3 + 1 by rw [List.length_append, hm3]; rfl] at hfre
  obtain ⟨g3, c3, cur3, hsf3, hR3⟩ := row_someS hfre
  have hrb := M2b.out.hb
  rw [hsf3] at hrb
  have c2f := er_cellAt hrb 2 _ rfl
  have c3f := er_cellAt hrb 3 _ rfl
  have ci := hR3.cell (i := m3) (v := .int .i64 (i : Int)) (by rw [hm3]; simp)
  have f3r := frozenC hrb 3
  have MB3 : m3 ≤ 1025 := by have h1 := V2.out.tot; have h2 := V2.out.bnd; have h3 := H1024.out; rw [List.length_append, ← hm3] at h1; omega
  have f1 : (0 : Int) < (m3 : Int) + 1 := by omega
  have f2 : (m3 : Int) < (m3 : Int) + 1 := by omega
  have f4 : (m3 : Int) ≤ (c3 : Int) := by have := hR3.nc; omega
  have hgr : g3 ≠ r := fun e => by
    have h1 := hR3.hb
    rw [e, M2b.out.hb] at h1
    injection h1 with h1; injection h1 with _ h1; exact absurd h1 (by decide)
  obtain ⟨sf4, hsf4⟩ : ∃ s, s = Value.slice (some ⟨g3, 0, none⟩) m3 c3 := ⟨_, rfl⟩
  have k7 : Keep (fun j => j = r ∨ sf1.ownBlock = some j) W2 (W2.setCell ⟨r, 3, none⟩ sf4) := (Keep.setCell W2 ⟨r, 3, none⟩ _).mono (S' := fun j => j = r ∨ sf1.ownBlock = some j) (fun j _ h => .inl h)
  have hr7 : (W2.setCell ⟨r, 3, none⟩ sf4).heap[r]? = some (.cells #[.int .i64 (most : Int), .map (some bm), .slice (some ⟨g, 0, none⟩) n c, sf4] 54 (0, 0)) := by simp [World.setCell, Array.getElem?_modify, M2b.out.hb]
  have hrow7 := (hR3.kept (w' := W2.setCell ⟨r, 3, none⟩ sf4) (by simp [World.setCell, Array.getElem?_modify, Ne.symm hgr])).shorter
  rw [Nat.mul_one, show ((fr0 ++ [i]).map fun (j : Nat) => Value.int .i64 (j : Int)).take m3 = fr0.map fun (j : Nat) => Value.int .i64 (j : Int) by rw [List.map_append, List.take_append_of_le_length (by rw [List.length_map]; omega), List.take_of_length_le (by rw [List.length_map]; omega)], ← hsf4] at hrow7
  have hrow8 : (W2.setCell ⟨r, 3, none⟩ sf4).ownsRow base 3 1 sf4 fr0.length (fr0.map fun (j : Nat) => .int .i64 (j : Int)) := by rw [← hm3]; exact hrow7
  have M2 := Bx.mk (M2b.out.free hr7 k7 hrow8)
  have K2a := Bx.mk (K2.out.trans k7 (fun j hj h => by rcases h with h | h; exact .inl h; exact FSUBf.out j hj h))
  have OB4 : Bx (sf4.ownBlock = sf1.ownBlock) := ⟨by rw [hsf4, hsf3]; rfl⟩
  clear k7 hr7 hrow7 hrow8 hfre hR3 hrb hgr hm3 hsf3 M2b K2
  have HS4 := Bx.mk hsf4
  clear hsf4
  go_upto_region 21 with (fail)
  clear c2f c3f ci f3r f1 f2 f4 MB3
  rw [← HS4.out]
  generalize W2.setCell ⟨r, 3, none⟩ sf4 = W4 at M2 K2a ⊢
  have XR := Bx.mk M2.out.hb; have GL := Bx.mk (Array.getElem?_eq_some_iff.1 M2.out.row.hb).1; have RL := Bx.mk M2.out.apart.1
  obtain ⟨hb0, il, va⟩ := CaV.add injS keylitS (fr := fr0) (i := i) V2.out x HKW.out HX.out HLT.out
  have VA := Bx.mk va; have IL := Bx.mk il; have FB := Bx.mk hb0; have IN := Bx.mk (show i < n by rw [M2.out.nl]; exact il)
  clear va il hb0
  go_upto_region 21 with (fail)
  refine wp_region_last (n := 149) (m := 17) VSp21fmk (fun k => if k = g then some 14 else none) (VSp21f r g n c i cur1 k x) (by kernel_rfl) (by kernel_rfl) rfl rfl (by kernel_rfl) (fun k hk => if_neg (by have := GL.out; omega)) (fun j i hj _ => by cases hj) ?_ ?_ ?_
  · exact fun oi oj v own w own' w' hij _ h r1 => VSp21f_mono r g n c i cur1 k x oi oj v own w own' w' hij h r1
  · intro oi o hltm hi f u own hsame hsn hfr hlate hkeep8 hdep
    have hkeep := hkeep8 _ (.inl rfl)
    have hk6 := hsn.keepOne
    match oi, hi with
    | 0, hi =>
      cases (show some _ = some o from hi)
      have e0 : f.tmps.getD 0 undef = .pointer (some ⟨r, 0, none⟩) := hsame.slot 0 (fun i o h => invB2_not 0 (by kernel_rfl) h)
      clear hdep hsame hi hlate hfr hkeep
      exact .inl ⟨wanted_none rfl, showsO_move hsn rfl _ rfl e0⟩
    | 1, hi =>
      cases (show some _ = some o from hi)
      have e122 : (f.tmps.getD 122 undef) = .pointer (some ⟨r, 0, none⟩) := depO (V := (VSp21f r g n c i cur1 k x)) hdep 0 122 (by kernel_rfl) (by kernel_rfl)
      clear hdep hsame hi hlate hfr hkeep
      exact .inl ⟨wanted_none rfl, showsO_pure hsn rfl (.pointer (some ⟨r, 0, none⟩)) (by simp only [execOp, Act.eval]; go_simp) rfl⟩
    | 2, hi =>
      cases (show some _ = some o from hi)
      have e123 : (f.tmps.getD 123 undef) = .pointer (some ⟨r, 0, none⟩) := depO (V := (VSp21f r g n c i cur1 k x)) hdep 1 123 (by kernel_rfl) (by kernel_rfl)
      clear hdep hsame hi hlate hfr hkeep
      exact .inl ⟨wanted_none rfl, showsO_pure hsn rfl (.pointer (some ⟨r, 2, none⟩)) (by simp only [execOp, Act.eval]; go_simp) rfl⟩
    | 3, hi =>
      cases (show some _ = some o from hi)
      have e124 : (f.tmps.getD 124 undef) = .pointer (some ⟨r, 2, none⟩) := depO (V := (VSp21f r g n c i cur1 k x)) hdep 2 124 (by kernel_rfl) (by kernel_rfl)
      clear hdep hsame hi hlate hfr hkeep
      have c125 := er_cellAt ((hk6.block _ (Array.getElem?_eq_some_iff.1 XR.out).1 RL.out).trans XR.out) 2 _ rfl
      exact .inl ⟨wanted_none rfl, showsO_pure hsn rfl (.slice (some ⟨g, 0, none⟩) n c) (by simp only [execOp, Act.eval]; go_simp) rfl⟩
    | 4, hi =>
      cases (show some _ = some o from hi)
      have e11 : f.tmps.getD 11 undef = .int .i64 (i : Int) := hsame.slot 11 (fun i o h => invB2_not 11 (by kernel_rfl) h)
      clear hdep hsame hi hlate hfr hkeep
      exact .inl ⟨wanted_none rfl, showsO_move hsn rfl _ rfl e11⟩
    | 5, hi =>
      cases (show some _ = some o from hi)
      have e0 : f.tmps.getD 0 undef = .pointer (some ⟨r, 0, none⟩) := hsame.slot 0 (fun i o h => invB2_not 0 (by kernel_rfl) h)
      clear hdep hsame hi hlate hfr hkeep
      exact .inl ⟨wanted_none rfl, showsO_move hsn rfl _ rfl e0⟩
    | 6, hi =>
      cases (show some _ = some o from hi)
      have e127 : (f.tmps.getD 127 undef) = .pointer (some ⟨r, 0, none⟩) := depO (V := (VSp21f r g n c i cur1 k x)) hdep 5 127 (by kernel_rfl) (by kernel_rfl)
      clear hdep hsame hi hlate hfr hkeep
      exact .inl ⟨wanted_none rfl, showsO_pure hsn rfl (.pointer (some ⟨r, 0, none⟩)) (by simp only [execOp, Act.eval]; go_simp) rfl⟩
    | 7, hi =>
      cases (show some _ = some o from hi)
      have e128 : (f.tmps.getD 128 undef) = .pointer (some ⟨r, 0, none⟩) := depO (V := (VSp21f r g n c i cur1 k x)) hdep 6 128 (by kernel_rfl) (by kernel_rfl)
      clear hdep hsame hi hlate hfr hkeep
      exact .inl ⟨wanted_none rfl, showsO_pure hsn rfl (.pointer (some ⟨r, 2, none⟩)) (by simp only [execOp, Act.eval]; go_simp) rfl⟩
    | 8, hi =>
      cases (show some _ = some o from hi)
      have e129 : (f.tmps.getD 129 undef) = .pointer (some ⟨r, 2, none⟩) := depO (V := (VSp21f r g n c i cur1 k x)) hdep 7 129 (by kernel_rfl) (by kernel_rfl)
      clear hdep hsame hi hlate hfr hkeep
      have c130 := er_cellAt ((hk6.block _ (Array.getElem?_eq_some_iff.1 XR.out).1 RL.out).trans XR.out) 2 _ rfl
      exact .inl ⟨wanted_none rfl, showsO_pure hsn rfl (.slice (some ⟨g, 0, none⟩) n c) (by simp only [execOp, Act.eval]; go_simp) rfl⟩
    | 9, hi =>
      cases (show some _ = some o from hi)
      have e11 : f.tmps.getD 11 undef = .int .i64 (i : Int) := hsame.slot 11 (fun i o h => invB2_not 11 (by kernel_rfl) h)
      clear hdep hsame hi hlate hfr hkeep
      exact .inl ⟨wanted_none rfl, showsO_move hsn rfl _ rfl e11⟩
    | 10, hi =>
      cases (show some _ = some o from hi)
      have e1 : f.tmps.getD 1 undef = .string k := hsame.slot 1 (fun i o h => invB2_not 1 (by kernel_rfl) h)
      clear hdep hsame hi hlate hfr hkeep
      exact .inl ⟨wanted_none rfl, showsO_move hsn rfl _ rfl e1⟩
    | 11, hi =>
      cases (show some _ = some o from hi)
      have e2 : f.tmps.getD 2 undef = .int .i64 x := hsame.slot 2 (fun i o h => invB2_not 2 (by kernel_rfl) h)
      clear hdep hsame hi hlate hfr hkeep
      exact .inl ⟨wanted_none rfl, showsO_move hsn rfl _ rfl e2⟩
    | 12, hi =>
      cases (show some _ = some o from hi)
      have e125 : (f.tmps.getD 125 undef) = .slice (some ⟨g, 0, none⟩) n c := depO (V := (VSp21f r g n c i cur1 k x)) hdep 3 125 (by kernel_rfl) (by kernel_rfl)
      have e126 : (f.tmps.getD 126 undef) = .int .i64 (i : Int) := depO (V := (VSp21f r g n c i cur1 k x)) hdep 4 126 (by kernel_rfl) (by kernel_rfl)
      clear hdep hsame hi hlate hfr hkeep
      have f2 : ¬ (n : Int) ≤ (i : Int) := by have := IN.out; omega
      have f3 : (i : Int) < (n : Int) := by have := IN.out; omega
      exact .inl ⟨wanted_none rfl, showsO_pure hsn rfl (.pointer (some ⟨g, i * 4, none⟩)) (by simp only [execOp, Act.eval]; go_simp) rfl⟩
    | 13, hi =>
      cases (show some _ = some o from hi)
      have e134 : (f.tmps.getD 134 undef) = .pointer (some ⟨g, i * 4, none⟩) := depO (V := (VSp21f r g n c i cur1 k x)) hdep 12 134 (by kernel_rfl) (by kernel_rfl)
      clear hdep hsame hi hlate hfr hkeep
      exact .inl ⟨wanted_none rfl, showsO_pure hsn rfl (.pointer (some ⟨g, i * 4, none⟩)) (by simp only [execOp, Act.eval]; go_simp) rfl⟩
    | 14, hi =>
      cases (show some _ = some o from hi)
      have e132 : (f.tmps.getD 132 undef) = .string k := depO (V := (VSp21f r g n c i cur1 k x)) hdep 10 132 (by kernel_rfl) (by kernel_rfl)
      have e135 : (f.tmps.getD 135 undef) = .pointer (some ⟨g, i * 4, none⟩) := depO (V := (VSp21f r g n c i cur1 k x)) hdep 13 135 (by kernel_rfl) (by kernel_rfl)
      clear hdep hsame hi hlate hfr hkeep
      have hg := M2.out.row.kept (hkeep8 14 (.inl rfl) g GL.out (if_pos rfl))
      have cc := hg.cell (icells_keyS M2.out.sz (j := i) IL.out)
      have ff := frozenC hg.hb (i * 4)
      exact .inl ⟨wanted_none rfl, showsO_store_cell hsn hkeep8 rfl g (i * 4 + 0) cur1 87 M2.out.row.hb (if_pos rfl) (.string k) (by simp only [execOp, Act.eval]; go_simp) (fun h => h)⟩
    | 15, hi =>
      cases (show some _ = some o from hi)
      have e130 : (f.tmps.getD 130 undef) = .slice (some ⟨g, 0, none⟩) n c := depO (V := (VSp21f r g n c i cur1 k x)) hdep 8 130 (by kernel_rfl) (by kernel_rfl)
      have e131 : (f.tmps.getD 131 undef) = .int .i64 (i : Int) := depO (V := (VSp21f r g n c i cur1 k x)) hdep 9 131 (by kernel_rfl) (by kernel_rfl)
      clear hdep hsame hi hlate hfr hkeep
      have f2 : ¬ (n : Int) ≤ (i : Int) := by have := IN.out; omega
      have f3 : (i : Int) < (n : Int) := by have := IN.out; omega
      exact .inl ⟨wanted_none rfl, showsO_pure hsn rfl (.pointer (some ⟨g, i * 4, none⟩)) (by simp only [execOp, Act.eval]; go_simp) rfl⟩
    | 16, hi =>
      cases (show some _ = some o from hi)
      have e136 : (f.tmps.getD 136 undef) = .pointer (some ⟨g, i * 4, none⟩) := depO (V := (VSp21f r g n c i cur1 k x)) hdep 15 136 (by kernel_rfl) (by kernel_rfl)
      clear hdep hsame hi hlate hfr hkeep
      exact .inl ⟨wanted_none rfl, showsO_pure hsn rfl (.pointer (some ⟨g, i * 4 + 1, none⟩)) (by simp only [execOp, Act.eval]; go_simp) rfl⟩
    | n + 17, hi => exact absurd hltm (by omega)
  intro o ho fr u1 own hsame hsn hla hall
  cases (show some _ = some o from ho)
  have q122 : fr.tmps.getD 122 undef = .pointer (some ⟨r, 0, none⟩) := finL (V := (VSp21f r g n c i cur1 k x)) hall 0 122 (by decide) rfl
  have q123 : fr.tmps.getD 123 undef = .pointer (some ⟨r, 0, none⟩) := finL (V := (VSp21f r g n c i cur1 k x)) hall 1 123 (by decide) rfl
  have q124 : fr.tmps.getD 124 undef = .pointer (some ⟨r, 2, none⟩) := finL (V := (VSp21f r g n c i cur1 k x)) hall 2 124 (by decide) rfl
  have q125 : fr.tmps.getD 125 undef = .slice (some ⟨g, 0, none⟩) n c := finL (V := (VSp21f r g n c i cur1 k x)) hall 3 125 (by decide) rfl
  have q126 : fr.tmps.getD 126 undef = .int .i64 (i : Int) := finL (V := (VSp21f r g n c i cur1 k x)) hall 4 126 (by decide) rfl
  have q127 : fr.tmps.getD 127 undef = .pointer (some ⟨r, 0, none⟩) := finL (V := (VSp21f r g n c i cur1 k x)) hall 5 127 (by decide) rfl
  have q128 : fr.tmps.getD 128 undef = .pointer (some ⟨r, 0, none⟩) := finL (V := (VSp21f r g n c i cur1 k x)) hall 6 128 (by decide) rfl
  have q129 : fr.tmps.getD 129 undef = .pointer (some ⟨r, 2, none⟩) := finL (V := (VSp21f r g n c i cur1 k x)) hall 7 129 (by decide) rfl
  have q130 : fr.tmps.getD 130 undef = .slice (some ⟨g, 0, none⟩) n c := finL (V := (VSp21f r g n c i cur1 k x)) hall 8 130 (by decide) rfl
  have q131 : fr.tmps.getD 131 undef = .int .i64 (i : Int) := finL (V := (VSp21f r g n c i cur1 k x)) hall 9 131 (by decide) rfl
  have q132 : fr.tmps.getD 132 undef = .string k := finL (V := (VSp21f r g n c i cur1 k x)) hall 10 132 (by decide) rfl
  have q133 : fr.tmps.getD 133 undef = .int .i64 x := finL (V := (VSp21f r g n c i cur1 k x)) hall 11 133 (by decide) rfl
  have q134 : fr.tmps.getD 134 undef = .pointer (some ⟨g, i * 4, none⟩) := finL (V := (VSp21f r g n c i cur1 k x)) hall 12 134 (by decide) rfl
  have q135 : fr.tmps.getD 135 undef = .pointer (some ⟨g, i * 4, none⟩) := finL (V := (VSp21f r g n c i cur1 k x)) hall 13 135 (by decide) rfl
  obtain ⟨o_14, m_14⟩ : OutV own u1 (g) 14 87 (cur1.setIfInBounds (i * 4 + 0) (.string k)) := finLN (V := (VSp21f r g n c i cur1 k x)) hall 14 (by decide) rfl
  have q136 : fr.tmps.getD 136 undef = .pointer (some ⟨g, i * 4, none⟩) := finL (V := (VSp21f r g n c i cur1 k x)) hall 15 136 (by decide) rfl
  have q137 : fr.tmps.getD 137 undef = .pointer (some ⟨g, i * 4 + 1, none⟩) := finL (V := (VSp21f r g n c i cur1 k x)) hall 16 137 (by decide) rfl
  obtain rfl := frame_eq hsame [(122, .pointer (some ⟨r, 0, none⟩)), (123, .pointer (some ⟨r, 0, none⟩)), (124, .pointer (some ⟨r, 2, none⟩)), (125, .slice (some ⟨g, 0, none⟩) n c), (126, .int .i64 (i : Int)), (127, .pointer (some ⟨r, 0, none⟩)), (128, .pointer (some ⟨r, 0, none⟩)), (129, .pointer (some ⟨r, 2, none⟩)), (130, .slice (some ⟨g, 0, none⟩) n c), (131, .int .i64 (i : Int)), (132, .string k), (133, .int .i64 x), (134, .pointer (some ⟨g, i * 4, none⟩)), (135, .pointer (some ⟨g, i * 4, none⟩)), (136, .pointer (some ⟨g, i * 4, none⟩)), (137, .pointer (some ⟨g, i * 4 + 1, none⟩))] (by kernel_rfl) ⟨q122, q123, q124, q125, q126, q127, q128, q129, q130, q131, q132, q133, q134, q135, q136, q137, trivial⟩
  clear hall hsame q122 q123 q124 q125 q126 q127 q128 q129 q130 q131 q132 q133 q134 q135 q136 q137
  simp only [List.foldl, List.setIfInBounds_toArray, List.set_cons_succ, List.set_cons_zero]
  have hk6 := hsn.keepOne
  have hrow1 := M2.out.row.set (i * 4 + 0) (.string k) m_14
  rw [icells_setKS M2.out.sz] at hrow1
  have H1 := M2.out.turnG hk6 hrow1 (setK_lenS _ _ _) (M2.out.sz.setKS _ _)
  have cc := H1.row.cell (icells_valS H1.sz (j := i) (by rw [setK_lenS]; exact IL.out))
  have ff := frozenC H1.row.hb (i * 4 + 1)
  have hk : Keep (fun j => j = g) u1 (u1.setCell ⟨g, i * 4 + 1, none⟩ (.int .i64 x)) := Keep.setCell u1 ⟨g, i * 4 + 1, none⟩ _
  have hrow := H1.row.setW (i * 4 + 1) (.int .i64 x)
  rw [icells_setVS H1.sz, setK_setVS] at hrow
  have K2 := Bx.mk (K2a.out.trans (hk6.trans hk (fun _ _ h => h)) (fun j hj h => .inr (.inr (.inl h))))
  have H2 := Bx.mk (H1.turnG hk hrow (by rw [setKV_len, setK_lenS]) (by have := (H1.sz.setVS i x); rwa [setK_setVS] at this))
  refine ⟨wanted_none rfl, last_skipS (w' := u1.setCell ⟨g, i * 4 + 1, none⟩ (.int .i64 x)) rfl (by simp only [execOp, Act.eval]; go_simp) ?_⟩
  clear cc ff hrow hk H1 hrow1 hk6 hsn hla ho m_14 o_14 XR M2 K2a
  generalize u1.setCell ⟨g, i * 4 + 1, none⟩ (.int .i64 x) = W21 at H2 K2 ⊢
  have c1 := er_cellAt H2.out.hb 1 _ rfl
  have HM2 := Bx.mk H2.out.map
  have NM : Bx (Maps.size D2 < maxLen) := ⟨by have h1 := V2.out.size; have h2 := V2.out.le; have h3 := H1024.out; unfold maxLen; omega⟩
  have IW := Bx.mk (show (Lit.int .i64 (i : Int)).wf = true by have h1 := IL.out; have h2 := V2.out.bnd; have h3 := H1024.out; simp [Lit.wf, IntKind.min, IntKind.max, IntKind.signed, IntKind.bits]; omega)
  go_wp2_with (at_mapUpdate; refine wpList_mapUpdate_in _ rfl _ _ _ 50 rfl 9 3 lawS Tryd.underlying50 _ bm (Maps.size D2) D2 rfl HM2.out NM.out _ _ _ rfl rfl HKEY.out _ [] (plainElem_int Tryd.underlying3 IW.out) ?_; intro w22 hm22 ht22; have M3 := Bx.mk (H2.out.turnM ht22 hm22); have K3 := Bx.mk (K2.out.trans (mapTurned_keep ht22) (fun j hj h => .inr (.inl h))); clear hm22 ht22 H2 K2 c1)
  refine (first_anyS base w22 r bm most _ g n c _ fr0 sf4 _ M3.out i (by rw [setKV_len]; exact IL.out) (by rw [setKV_len]; exact FB.out)).mono ?_
  rintro e w23 ⟨rfl, cur5, m5, k5⟩
  have M5 := Bx.mk m5; have K5 := Bx.mk (K3.out.trans k5 (fun j hj h => .inr (.inr (.inl h))))
  clear m5 k5 M3 K3
  go_wp2_with fail
  go_ret2
  refine ⟨rfl, CaB r bm g sf4, ⟨H1024.out, bm, _, g, _, _, cur5, _, sf4, _, _, M5.out, VA.out, fun k => Iff.rfl⟩, K5.out.mono (fun j _ hj => (HB.out j).2 (by rw [HSF.out] at hj; exact hj)), fun k hk => ?_⟩
  rcases hk with h | h | h | h
  · exact .inl ((HB.out k).2 (.inl h))
  · exact .inl ((HB.out k).2 (.inr (.inl h)))
  · exact .inl ((HB.out k).2 (.inr (.inr (.inl h))))
  · rw [OB4.out] at h
    exact (S2.out k h).imp (fun h => (HB.out k).2 (.inr (.inr (.inr h)))) id
end Go.Proofs.YtdepmjgibenejaaDoor
