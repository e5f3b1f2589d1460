/- Keys and values of several cells: items in a row, a store into the middle of one, a lookup and a store of a map (chapter 13). -/
import Derived.Test.YtdepmjgibenejaaDoorCaQ
import Derived.Test.YtdepmjgibenejaaDoorCaP
import Derived.Test.YtdepmjgibenejaaDoorCaM
import Derived.Maps.OwnSet
import Derived.DeepKeys5
namespace Go.Proofs.YtdepmjgibenejaaDoor
set_option maxRecDepth 100000
open Go.RowKit Go.Maps
def zH : List UInt8 := List.replicate 32 0
theorem underHz : Tryd.prog.underlying 32 = some (.array 32 5) := by kernel_rfl
theorem sizeHz : (Tryd.prog.info? 32).map (·.size) = some 32 := by kernel_rfl
theorem blen (l : List UInt8) : (bcells l).length = l.length := by unfold bcells; rw [List.length_map]
theorem hsz {l : List UInt8} (h : l.length = 32) : (Tryd.prog.info? 32).map (·.size) = some (bcells l).toArray.size := by rw [List.size_toArray, blen, h]; exact sizeHz
theorem hszl {l : List UInt8} (h : l.length = 32) : (Tryd.prog.info? 32).map (·.size) = some (bcells l).length := by rw [blen, h]; exact sizeHz
theorem bone (l : List UInt8) : (bcells l).toArray.all (·.oneCell') = true := by simp [bcells, bcell, Value.oneCell']
theorem setList_len : ∀ (vs xs : List Value) (o : Nat), (setList xs o vs).length = xs.length
  | [], _, _ => rfl
  | v :: vs, xs, o => (setList_len vs (xs.set o v) (o + 1)).trans (List.length_set ..)
theorem setList_left : ∀ (vs xs zs : List Value) (o : Nat), o + vs.length ≤ xs.length → setList (xs ++ zs) o vs = setList xs o vs ++ zs
  | [], _, _, _, _ => rfl
  | v :: vs, xs, zs, o, h => by
    show setList ((xs ++ zs).set o v) (o + 1) vs = setList (xs.set o v) (o + 1) vs ++ zs
    have h : o + (vs.length + 1) ≤ xs.length := h
    rw [List.set_append_left _ _ (by omega)]
    exact setList_left vs (xs.set o v) zs (o + 1) (by rw [List.length_set]; omega)
theorem setList_mid (a b c ys : List Value) (h : b.length = ys.length) : setList (a ++ b ++ c) a.length ys = a ++ ys ++ c := by
  rw [List.append_assoc, show a.length = a.length + 0 from rfl, setList_app, setList_head _ _ _ h, List.append_assoc]
theorem setList_flat_mod {α : Type} (f : α → List Value) (S K : Nat) (g : α → α) (ys : List Value) (hK : K + ys.length ≤ S) : ∀ (l : List α) (j : Nat), j < l.length → (∀ y ∈ l, (f y).length = S) → (∀ y ∈ l, f (g y) = setList (f y) K ys) → setList (l.flatMap f) (j * S + K) ys = (l.modify j g).flatMap f
  | y :: l, 0, _, h, hg => by
    rw [List.flatMap_cons, Nat.zero_mul, Nat.zero_add, setList_left _ _ _ _ (by rw [h y (by simp)]; exact hK), ← hg y (by simp)]
    simp [List.modify_cons]
  | y :: l, j + 1, hj, h, hg => by
    have e : (j + 1) * S + K = (f y).length + (j * S + K) := by rw [h y (by simp), Nat.add_mul]; omega
    rw [List.flatMap_cons, e, setList_app, setList_flat_mod f S K g ys hK l j (by simpa using hj) (fun z hz => h z (by simp [hz])) (fun z hz => hg z (by simp [hz]))]
    simp [List.modify_cons]
section
variable {κ ν : Type} {kc : κ → List Value} {vc : ν → List Value} {K V : Nat}
def setKz (l : List (CaI κ ν)) (j : Nat) (k : κ) : List (CaI κ ν) := l.modify j fun x => { x with k := k }
theorem icells_setVz {l : List (CaI κ ν)} (h : SzI kc vc K V l) {j : Nat} (hj : j < l.length) {x : ν} (hx : (vc x).length = V) : setList (icells kc vc l) (j * (K + V + 2) + K) (vc x) = icells kc vc (setV l j x) := by
  refine setList_flat_mod (icell kc vc) (K + V + 2) K (fun y => { y with v := x }) (vc x) (by omega) l j hj h.len fun y hy => ?_
  obtain ⟨h1, h2⟩ := h y hy
  unfold icell
  have := setList_mid (kc y.k) (vc y.v) [.int .i64 (y.nw : Int), .int .i64 (y.ol : Int)] (vc x) (by rw [h2, hx])
  rw [h1] at this
  exact this.symm
theorem icells_setKz {l : List (CaI κ ν)} (h : SzI kc vc K V l) {j : Nat} (hj : j < l.length) {k : κ} (hk : (kc k).length = K) : setList (icells kc vc l) (j * (K + V + 2) + 0) (kc k) = icells kc vc (setKz l j k) := by
  refine setList_flat_mod (icell kc vc) (K + V + 2) 0 (fun y => { y with k := k }) (kc k) (by omega) l j hj h.len fun y hy => ?_
  obtain ⟨h1, h2⟩ := h y hy
  unfold icell
  rw [List.append_assoc, List.append_assoc, setList_head _ _ _ (by rw [h1, hk])]
theorem SzI.setVz {l : List (CaI κ ν)} (h : SzI kc vc K V l) (j : Nat) {x : ν} (hx : (vc x).length = V) : SzI kc vc K V (setV l j x) := fun y hy => by
  rcases mem_modify hy with h1 | ⟨z, h1, rfl⟩
  · exact h y h1
  · exact ⟨(h z h1).1, hx⟩
theorem SzI.setKz {l : List (CaI κ ν)} (h : SzI kc vc K V l) (j : Nat) {k : κ} (hk : (kc k).length = K) : SzI kc vc K V (setKz l j k) := fun y hy => by
  rcases mem_modify hy with h1 | ⟨z, h1, rfl⟩
  · exact h y h1
  · exact ⟨hk, (h z h1).2⟩
theorem setK_setVz (l : List (CaI κ ν)) (j : Nat) (k : κ) (x : ν) : setV (setKz l j k) j x = setKV l j k x := by
  apply List.ext_getElem?
  intro i
  unfold setV Go.Proofs.YtdepmjgibenejaaDoor.setKz setKV
  rw [modify_get, modify_get, modify_get]
  split
  · cases l[i]? <;> rfl
  · rfl
theorem setK_lenz (l : List (CaI κ ν)) (j : Nat) (k : κ) : (Go.Proofs.YtdepmjgibenejaaDoor.setKz l j k).length = l.length := List.length_modify ..
theorem item_rangez {w : World} {base : Nat} {e : TypeId} {g n c : Nat} {cur : Array Value} {its : List (CaI κ ν)} (h : RowG w base e (K + V + 2) g n c cur (icells kc vc its)) (hs : SzI kc vc K V its) {i : Nat} {x : κ × ν} (hi : kvF its i = some x) :
    w.rangeAt g (i * (K + V + 2) + K) (vc x.2) ∧ w.rangeAt g (i * (K + V + 2)) (kc x.1) := by
  unfold kvF at hi
  obtain ⟨y, h1, rfl⟩ := Option.map_eq_some_iff.1 hi
  obtain ⟨hl, e1⟩ := List.getElem?_eq_some_iff.1 h1
  obtain ⟨s1, s2⟩ := hs _ (List.getElem_mem hl)
  rw [e1] at s1 s2
  refine ⟨fun j v hv => ?_, fun j v hv => ?_⟩
  · have hj : j < V := by rw [← s2]; exact (List.getElem?_eq_some_iff.1 hv).1
    rw [Nat.add_assoc]
    refine h.cell ((icells_item hs hl (K + j) (by omega)).trans ?_)
    rw [e1]
    unfold icell
    rw [List.append_assoc, List.getElem?_append_right (by rw [s1]; omega), s1, show K + j - K = j by omega, List.getElem?_append_left (by rw [s2]; exact hj)]
    exact hv
  · have hj : j < K := by rw [← s1]; exact (List.getElem?_eq_some_iff.1 hv).1
    refine h.cell ((icells_item hs hl j (by omega)).trans ?_)
    rw [e1]
    unfold icell
    rw [List.append_assoc, List.getElem?_append_left (by rw [s1]; exact hj)]
    exact hv
end
theorem setCells_kind (g : Nat) : ∀ (vs : List Value) (o : Nat) (w : World) (c : Array Value) (T : TypeId) (fr : Nat × Nat), w.heap[g]? = some (.cells c T fr) → ∃ c' : Array Value, (w.setCells g o vs).heap[g]? = some (.cells c' T fr) ∧ c'.size = c.size
  | [], _, _, c, _, _, h => ⟨c, h, rfl⟩
  | v :: vs, o, w, c, T, fr, h => by
    have h1 : (w.setCell ⟨g, o, none⟩ v).heap[g]? = some (.cells (c.setIfInBounds o v) T fr) := by simp [World.setCell, Array.getElem?_modify, h]
    obtain ⟨c', h2, h3⟩ := setCells_kind g vs (o + 1) _ _ _ _ h1
    exact ⟨c', h2, h3.trans (by simp)⟩
theorem showsO_store_midC {mk own0 own : Nat → Option Nat} {w0 w : World} {P : Program} {Q : Exit → Act → World → Prop} {V : Nat → Value → (Nat → Option Nat) → World → Prop} {i : Nat} {o : Oper} {a : Act} (hs0 : Since own0 w0 own w) (hd : o.dst = none) (ty : TypeId) (x y : Operand) (ho : o.op = .store ty x y)
    (g off : Nat) (cells : Array Value) (hx : a.eval x = .pointer (some ⟨g, off, none⟩)) (hy : a.eval y = .agg cells) (ht : w.there g off cells.size) (hi : (P.info? ty).map (·.size) = some cells.size) (h1 : cells.all (·.oneCell') = true) (how' : own g = some i) (hv : V i undef own (w.setCells g off cells.toList)) : ShowsO mk P Q V i o a own w := by
  intro K hK
  refine wp_store_mid ty x y ho g off cells hx hy ht hi h1 ?_
  have kp := keep_setCells g cells.toList off w
  refine hK undef _ own (by unfold laid; rw [hd]; exact hv) ⟨kp.os, kp.tape, kp.output, kp.size, fun _ _ => rfl, fun k hk hn => kp.block k hk (fun e => hn (e ▸ how')), fun k c t fr hc => ?_, fun k j hk hj => (by rw [hs0.top k hk] at hj; cases hj), fun k hk => hs0.top k (Nat.le_trans kp.size hk)⟩
  by_cases hkg : k = g
  · subst hkg; exact setCells_kind k _ off w c t fr hc
  · exact ⟨c, (kp.block k (Array.getElem?_eq_some_iff.1 hc).1 hkg).trans hc, rfl⟩
theorem last_store_mid {P : Program} {Q : Exit → Act → World → Prop} {o : Oper} {a : Act} {w : World} (hd : o.dst = none) (ty : TypeId) (x y : Operand) (ho : o.op = .store ty x y) (g off : Nat) (cells : Array Value) (hx : a.eval x = .pointer (some ⟨g, off, none⟩)) (hy : a.eval y = .agg cells)
    (ht : w.there g off cells.size) (hi : (P.info? ty).map (·.size) = some cells.size) (h1 : cells.all (·.oneCell') = true) (h : Q .normal a (w.setCells g off cells.toList)) : o.wp P a w (Q .normal) Q :=
  wp_store_mid ty x y ho g off cells hx hy ht hi h1 (by rw [hd]; exact h)
theorem last_update {P : Program} {Q : Exit → Act → World → Prop} {o : Oper} {a : Act} {w w' : World} (m x y : Operand) (t : TypeId) (ho : o.op = .mapUpdate t m x y) (hd : o.dst = none)
    (mv xv yv : Value) (hm : a.eval m = mv) (hx : a.eval x = xv) (hy : a.eval y = yv) (hrun : (Instr.mapUpdate t mv xv yv).run P w = .ok () w') (h : Q .normal a w') : o.wp P a w (Q .normal) Q := by
  have e : a.put o.dst undef = a := by rw [hd]; rfl
  have h2 : Q .normal (a.put o.dst undef) w' := by rw [e]; exact h
  unfold Oper.wp
  simp [execOp, ho, hm, hx, hy, hrun, Result.andThen]
  exact h2
theorem res_cs {fn : Func} {p u : Tmp} {ty : TypeId} {P : Program} (h : fn.results = #[.cell p ty, .tmp u]) (tmps : Array Value) (w : World) (g : Nat) (t : TypeId) (cs : Array Value) (fr : Nat × Nat) {d : TypeDesc}
    (hp : tmps.getD p undef = .pointer (some ⟨g, 0, none⟩)) (hg : w.heap[g]? = some (.cells cs t fr))
    (hd : (match d with | .struct _ | .array _ _ => true | _ => false) = true) (hu : P.underlying ty = some d) (hi : (P.info? ty).map (·.size) = some cs.size) :
    (results fn tmps).run P w = .ok (.tuple #[.agg cs, tmps.getD u undef]) w := by
  have hl := run_loadVar_row (P := P) w g t ty cs fr d hg hu (by cases d <;> first | rfl | cases hd) hi
  have hp' : tmps[p]?.getD undef = .pointer (some ⟨g, 0, none⟩) := by simpa using hp
  simp [results, h, hp', asAddr, hl, Result.andThen]
theorem ownsMap_belowz {w w' : World} {P : Program} {k : TypeId} {R : Value → Option (DataW Unit × List MemPlace)} {b n : Nat} {D : DataW Unit} (h : w.ownsMap P k R b n D) (hb : Below w.heap.size w w') : w'.ownsMap P k R b n D := by
  obtain ⟨es, clock, hm, hF⟩ := h
  exact ⟨es, clock, (hb.block b (Array.getElem?_eq_some_iff.1 hm).1).trans hm, hF⟩
theorem info_partsz {P : Program} {t : TypeId} {z : Value} {s b : Nat} (h : (P.info? t).map (fun i => (i.zero, i.size, i.bytes)) = some (some z, s, b)) : ∃ i, P.info? t = some i ∧ i.zero = some z ∧ i.size = s ∧ i.bytes = b := by
  obtain ⟨i, h1, h2⟩ := Option.map_eq_some_iff.1 h
  simp only [Prod.mk.injEq] at h2
  exact ⟨i, h1, h2.1, h2.2.1, h2.2.2⟩
theorem atKey_miss {H : Type} {D : DataW H} {k : Lit} {z : DataW H} (h : Maps.has D k = false) : D.atKey k z = z := by
  cases D <;> try rfl
  rename_i es
  rw [has_eq] at h
  show (match es.find? (fun p => p.1.sameKey k) with | some p => p.2 | none => z) = z
  rw [List.find?_eq_none.2 (fun p hp => by have := List.any_eq_false.1 h p hp; simpa using this)]
theorem bcells_injz {a b : List UInt8} (h : bcells a = bcells b) : a = b := by
  unfold bcells at h
  refine (List.map_inj_right ?_).1 h
  intro x y e
  unfold bcell at e
  injection e with _ e
  exact UInt8.toNat_inj.1 (by exact_mod_cast e)
theorem look_z {P : Program} {u : World} {MT KT INT : TypeId} {bm n : Nat} {D : DataW Unit} (h : u.ownsMap P KT (plainElem P INT) bm n D) (law : Keyed P KT) (ht : P.underlying MT = some (.map KT INT)) (he : P.underlying INT = some (.int .i64)) (hz : ∀ w, (zeroValue INT).run P w = .ok (.int .i64 0) w)
    {key : Value} {kl : Lit} (hkey : keyOf P KT key = some kl) {i : Int} (hat : D.atKey kl (.lit (.int .i64 0)) = .lit (.int .i64 i)) : (Instr.lookup MT (.map (some bm)) key true).run P u = .ok (.tuple #[.int .i64 i, .bool (Maps.has D kl)]) u := by
  obtain ⟨v, ps, hrun, hv⟩ := h.look_ok law ht (hz u) (zd := .lit (.int .i64 0)) (zp := []) (plainElem_int he (by decide)) hkey
  rw [hat] at hv
  obtain ⟨c, rfl, hc, hwc⟩ := plainElem_int_inv he hv
  have h1 := congrArg Prod.fst hc
  injection h1 with h1
  injection h1 with _ h1
  subst h1
  exact hrun
end Go.Proofs.YtdepmjgibenejaaDoor
