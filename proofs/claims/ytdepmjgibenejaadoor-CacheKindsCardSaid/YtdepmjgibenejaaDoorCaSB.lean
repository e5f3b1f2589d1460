/- Caches of string, int: a cache that is there; Get. -/
import Derived.Test.YtdepmjgibenejaaDoorCaSA
import Derived.Test.YtdepmjgibenejaaDoorCaP
import Derived.WalkSpells
import Derived.StringKeys
namespace Go.Proofs.YtdepmjgibenejaaDoor
set_option maxRecDepth 100000
open Go.RowKit Go.Maps
theorem lawS : Keyed Tryd.prog 9 := string_keyed Tryd.underlying9
def kwS (k : ByteArray) : Prop := k.size ≤ maxLen
theorem keyS {k : ByteArray} (h : kwS k) : keyOf Tryd.prog 9 (.string k) = some (klS k) := Go.WideMaps.keyOf_string_mk Tryd.underlying9 h
theorem injS (a b : ByteArray) (_ : kwS a) (_ : kwS b) (h : klS a = klS b) : a = b := by
  unfold klS at h
  injection h with h
  have h2 := Array.toList_inj.1 h
  cases a; cases b; cases h2; rfl
theorem keylitS (k : ByteArray) (h : kwS k) : WideAt.IsKeyLit (klS k) := (lawS).key (keyS h)
theorem zeroES (w : World) : (zeroValue 3).run Tryd.prog w = .ok (.int .i64 0) w := by kernel_rfl
/-- a cache that is there: what it holds, its blocks -/
def CaXS (base : Nat) (w : World) (r most : Nat) (es : List (ByteArray × Int)) (B : Nat → Prop) : Prop :=
  most ≤ 1024 ∧ ∃ (bm : Nat) (its : List (CaI ByteArray Int)) (g n c : Nat) (cur : Array Value) (fr : List Nat) (sf : Value) (D : DataW Unit) (o : List Nat), CaMS base w r bm most its g n c cur fr sf D ∧ CaV klS kwS most its o fr D es ∧ ∀ k, B k ↔ k = r ∨ k = bm ∨ k = g ∨ sf.ownBlock = some k
/-- what a call that turns a cache leaves -/
def CaTS (base : Nat) (w w' : World) (r most : Nat) (es : List (ByteArray × Int)) (B : Nat → Prop) : Prop :=
  ∃ B', CaXS base w' r most es B' ∧ Keep B w w' ∧ ∀ k, B' k → B k ∨ w.heap.size ≤ k
theorem CaMS.mlt {base : Nat} {w : World} {r bm most : Nat} {its : List (CaI ByteArray Int)} {g n c : Nat} {cur : Array Value} {fr : List Nat} {sf : Value} {D : DataW Unit} (h : CaMS base w r bm most its g n c cur fr sf D) : bm < w.heap.size := h.map.lt
theorem CaXS.lt {base : Nat} {w : World} {r most : Nat} {es : List (ByteArray × Int)} {B : Nat → Prop} (h : CaXS base w r most es B) (k : Nat) (hk : B k) : k < w.heap.size := by
  obtain ⟨_, bm, its, g, n, c, cur, fr, sf, D, o, m, v, hB⟩ := h
  rcases (hB k).1 hk with rfl | rfl | rfl | h
  · exact (Array.getElem?_eq_some_iff.1 m.hb).1
  · exact m.mlt
  · exact (Array.getElem?_eq_some_iff.1 m.row.hb).1
  · exact ownsRow_lt m.fre k h
theorem CaXS.ge {base : Nat} {w : World} {r most : Nat} {es : List (ByteArray × Int)} {B : Nat → Prop} (h : CaXS base w r most es B) (k : Nat) (hk : B k) : base ≤ k := by
  obtain ⟨_, bm, its, g, n, c, cur, fr, sf, D, o, m, v, hB⟩ := h
  rcases (hB k).1 hk with rfl | rfl | rfl | h
  · exact m.br
  · exact m.bb
  · exact m.row.bb
  · exact ownsRow_fresh m.fre k h
theorem CaMS.keptAll {base : Nat} {w w' : World} {r bm most : Nat} {its : List (CaI ByteArray Int)} {g n c : Nat} {cur : Array Value} {fr : List Nat} {sf : Value} {D : DataW Unit} {T : Nat → Prop} (h : CaMS base w r bm most its g n c cur fr sf D) (k : Keep T w w')
    (h1 : ¬ T r) (h2 : ¬ T bm) (h3 : ¬ T g) (h4 : ∀ j, sf.ownBlock = some j → ¬ T j) : CaMS base w' r bm most its g n c cur fr sf D := by
  obtain ⟨es, clock, hm, hF⟩ := h.map
  exact ⟨(k.block r (Array.getElem?_eq_some_iff.1 h.hb).1 h1).trans h.hb, h.br, h.bb, h.nl, h.row.kept (k.block g (Array.getElem?_eq_some_iff.1 h.row.hb).1 h3), ownsRow_keep' h.fre fun j hj => k.block j (ownsRow_lt h.fre j hj) (h4 j hj), ⟨es, clock, (k.block bm (Array.getElem?_eq_some_iff.1 hm).1 h2).trans hm, hF⟩, h.sz⟩
theorem CaXS.kept {base : Nat} {w w' : World} {r most : Nat} {es : List (ByteArray × Int)} {B T : Nat → Prop} (h : CaXS base w r most es B) (k : Keep T w w') (hd : ∀ j, B j → ¬ T j) : CaXS base w' r most es B := by
  obtain ⟨h0, bm, its, g, n, c, cur, fr, sf, D, o, m, v, hB⟩ := h
  exact ⟨h0, bm, its, g, n, c, cur, fr, sf, D, o, m.keptAll k (hd _ ((hB _).2 (.inl rfl))) (hd _ ((hB _).2 (.inr (.inl rfl)))) (hd _ ((hB _).2 (.inr (.inr (.inl rfl))))) (fun j hj => hd _ ((hB _).2 (.inr (.inr (.inr hj))))), v, hB⟩
theorem CaXS.below {base : Nat} {w w' : World} {r most : Nat} {es : List (ByteArray × Int)} {B : Nat → Prop} (h : CaXS base w r most es B) (k : Below w.heap.size w w') : CaXS base w' r most es B := h.kept (Keep.of_below k (fun _ => False)) (fun _ _ h => h)
theorem CaXS.mono {base base' : Nat} {w : World} {r most : Nat} {es : List (ByteArray × Int)} {B : Nat → Prop} (h : CaXS base w r most es B) (hb : base' ≤ base) : CaXS base' w r most es B := by
  obtain ⟨h0, bm, its, g, n, c, cur, fr, sf, D, o, m, v, hB⟩ := h
  exact ⟨h0, bm, its, g, n, c, cur, fr, sf, D, o, ⟨m.hb, Nat.le_trans hb m.br, Nat.le_trans hb m.bb, m.nl, { m.row with bb := Nat.le_trans hb m.row.bb }, ownsRow_mono m.fre hb, m.map, m.sz⟩, v, hB⟩
/-- a value of an item in memory -/
theorem CaMS.value {base : Nat} {w : World} {r bm most : Nat} {its : List (CaI ByteArray Int)} {g n c : Nat} {cur : Array Value} {fr : List Nat} {sf : Value} {D : DataW Unit} (h : CaMS base w r bm most its g n c cur fr sf D) {i : Nat} {x : ByteArray × Int} (hi : kvF its i = some x) :
    w.cell? ⟨g, i * 4 + 1, none⟩ = some (.int .i64 x.2) ∧ w.cell? ⟨g, i * 4, none⟩ = some (.string x.1) := by
  unfold kvF at hi
  obtain ⟨y, h1, rfl⟩ := Option.map_eq_some_iff.1 hi
  obtain ⟨hl, e⟩ := List.getElem?_eq_some_iff.1 h1
  refine ⟨h.row.cell ((icells_item h.sz hl 1 (by decide)).trans (by rw [e]; rfl)), h.row.cell ((icells_item h.sz hl 0 (by decide)).trans (by rw [e]; rfl))⟩
/-- no cache, or one that no call made -/
def DeadXS (w : World) (v : Value) : Prop := v = .pointer none ∨ ∃ b, v = .pointer (some ⟨b, 0, none⟩) ∧ w.heap[b]? = some (.cells #[.int .i64 0, .map none, .slice none 0 0, .slice none 0 0] 54 (0, 0))
theorem DeadXS.below {w w' : World} {v : Value} (h : DeadXS w v) (k : Below w.heap.size w w') : DeadXS w' v := by
  rcases h with h | ⟨b, h1, h2⟩
  · exact .inl h
  · exact .inr ⟨b, h1, (k.block b (Array.getElem?_eq_some_iff.1 h2).1).trans h2⟩
set_option maxHeartbeats 1600000 in
theorem get_missS (base : Nat) (w : World) (r most : Nat) (es : List (ByteArray × Int)) (B : Nat → Prop) (h : CaXS base w r most es B) (k : ByteArray) (hk : kwS k) (hx : k ∉ es.map (·.1)) :
    Calls Tryd.prog 14 #[.pointer (some ⟨r, 0, none⟩), .string k] w fun e w' => e = .returned (.tuple #[.int .i64 0, .bool false]) ∧ Below w.heap.size w w' := by
  obtain ⟨h0, bm, its, g, n, c, cur, fr, sf, D, o, m, v, hB⟩ := h
  have HKEY := Bx.mk (keyS hk)
  have c1 := er_cellAt m.hb 1 _ rfl
  have hmn := fun w => run_eql_map_nil (P := Tryd.prog) w 50 9 3 (some bm) Tryd.underlying50
  have HM := Bx.mk m.map; have HMM := Bx.mk m; have HV := Bx.mk v; have HB := Bx.mk hB
  have hh : Maps.has D (klS k) = false := by
    cases e : Maps.has D (klS k) with
    | false => rfl
    | true => exact absurd ((v.has k hk).1 e) hx
  clear m v hB hx hk h0
  go_enter Tryd.func14, Tryd.ntmps14
  go_wp2_with (at_lookup; refine wpList_lookup_own_ok_int _ rfl _ _ 50 rfl 9 3 .i64 lawS Tryd.underlying50 Tryd.underlying3 (zeroES _) bm (Maps.size D) D rfl HM.out _ _ rfl HKEY.out ?_; intro ci hat hwc; have HAT := Bx.mk hat; clear hat hwc)
  go_ret2
  exact ⟨rfl, Below.refl _ _⟩
set_option maxHeartbeats 1600000 in
theorem get_hitS (base : Nat) (w : World) (r most : Nat) (es : List (ByteArray × Int)) (B : Nat → Prop) (h : CaXS base w r most es B) (k : ByteArray) (hk : kwS k) (t : Nat) (ht : t < es.length) (hke : es[t].1 = k) :
    Calls Tryd.prog 14 #[.pointer (some ⟨r, 0, none⟩), .string k] w fun e w' => e = .returned (.tuple #[.int .i64 es[t].2, .bool true]) ∧ CaTS base w w' r most (es[t] :: es.eraseIdx t) B := by
  obtain ⟨h0, bm, its, g, n, c, cur, fr, sf, D, o, m, v, hB⟩ := h
  have HKEY := Bx.mk (keyS hk)
  have c1 := er_cellAt m.hb 1 _ rfl
  have hmn := fun w => run_eql_map_nil (P := Tryd.prog) w 50 9 3 (some bm) Tryd.underlying50
  have HM := Bx.mk m.map; have HMM := Bx.mk m; have HV := Bx.mk v; have HB := Bx.mk hB
  have hto : t < o.length := by rw [v.len]; exact ht
  obtain ⟨fb, fv⟩ := v.front ht hto
  have hkt := v.kvt ht
  obtain ⟨l1, l2, l3⟩ := v.lt hto
  have hh : Maps.has D (klS k) = true := (v.has k hk).2 (hke ▸ List.mem_map.2 ⟨_, List.getElem_mem ht, rfl⟩)
  have hat0 := v.at' _ (List.getElem_mem hto) _ hkt (.lit (.int .i64 0))
  rw [hke] at hat0
  obtain ⟨x, hx⟩ : ∃ x, x = es[t] := ⟨_, rfl⟩
  rw [← hx] at fv hkt ⊢
  obtain ⟨i, hi⟩ : ∃ i, i = o[t] := ⟨_, rfl⟩
  rw [← hi] at fb fv hkt l1 l2 l3 hat0
  have FB := Bx.mk fb; have FV := Bx.mk fv; have KT := Bx.mk hkt; have L1 := Bx.mk l1; have L2 := Bx.mk l2; have L3 := Bx.mk l3; have AT := Bx.mk hat0; have H1024 := Bx.mk h0
  clear m v hB hk h0 fb fv hkt l1 l2 l3 hat0 hx hi ht hto hke
  go_enter Tryd.func14, Tryd.ntmps14
  go_wp2_with (at_lookup; refine wpList_lookup_own_ok_int _ rfl _ _ 50 rfl 9 3 .i64 lawS Tryd.underlying50 Tryd.underlying3 (zeroES _) bm (Maps.size D) D rfl HM.out _ _ rfl HKEY.out ?_; intro ci hat hwc; have HAT := Bx.mk hat; clear hat hwc)
  obtain rfl : ci = (i : Int) := by
    have h1 := HAT.out
    rw [AT.out] at h1
    injection h1 with h1; injection h1 with _ h1; exact h1.symm
  clear c1
  refine (out_anyS base w r bm most its g n c cur fr sf D HMM.out i L1.out L2.out L3.out).mono ?_
  rintro e w1 ⟨rfl, cur1, m1, k1⟩
  have M1 := Bx.mk m1; have K1 := Bx.mk k1
  clear m1 k1
  go_wp2_with fail
  refine (first_anyS base w1 r bm most _ g n c cur1 fr sf D M1.out i (by rw [outI_len]; exact L1.out) (by rw [outI_len]; exact FB.out)).mono ?_
  rintro e w2 ⟨rfl, cur2, m2, k2⟩
  have M2 := Bx.mk m2; have K2 := Bx.mk (K1.out.trans k2 (fun _ _ h => h))
  have c2 := er_cellAt m2.hb 2 _ rfl
  obtain ⟨cv, -⟩ := m2.value (i := i) (x := x) (by rw [firstI_kv, outI_kv]; exact KT.out)
  have f3 : (i : Int) < (n : Int) := by have := L1.out; have := HMM.out.nl; omega
  clear m2 k2 M1 K1
  go_wp2_with fail
  go_ret2
  exact ⟨rfl, B, ⟨H1024.out, bm, _, g, n, c, cur2, fr, sf, D, _, M2.out, FV.out, HB.out⟩, K2.out.mono (fun j _ hj => (HB.out j).2 (.inr (.inr (.inl hj)))), fun k hk => .inl hk⟩
end Go.Proofs.YtdepmjgibenejaaDoor
