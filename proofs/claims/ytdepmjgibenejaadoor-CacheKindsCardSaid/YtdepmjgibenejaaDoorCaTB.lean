/- Caches of cartulary/api.Tile, cartulary/api.Hash: Get of what is there, Put where none has to go, New. -/
import Derived.Test.YtdepmjgibenejaaDoorCaTA
namespace Go.Proofs.YtdepmjgibenejaaDoor
set_option maxRecDepth 100000
open Go.RowKit Go.Maps
theorem szT {k : TlK} : (Tryd.prog.info? 30).map (·.size) = some (kcT k).toArray.size := by rw [show (kcT k).toArray.size = 3 from rfl]; kernel_rfl
theorem oneT (k : TlK) : (kcT k).toArray.all (·.oneCell') = true := by simp [kcT, Value.oneCell']
theorem lenT (k : TlK) : (kcT k).length = 3 := rfl
theorem lawT : Keyed Tryd.prog 30 := Keyed.of_law (deep_law_gate (by kernel_rfl) (of_decide_eq_true (by kernel_rfl)) (of_decide_eq_true (by kernel_rfl)) (by kernel_rfl) (by kernel_rfl))
noncomputable def klT (k : TlK) : Lit := (keyOf Tryd.prog 30 (.agg (kcT k).toArray)).getD (.bool false)
def kwT (k : TlK) : Prop := (kcT k).length = 3 ∧ (keyOf Tryd.prog 30 (.agg (kcT k).toArray)).isSome = true
theorem keyT {k : TlK} (h : kwT k) : keyOf Tryd.prog 30 (.agg (kcT k).toArray) = some (klT k) := by
  obtain ⟨l, hl⟩ := Option.isSome_iff_exists.1 h.2
  unfold klT
  rw [hl]; rfl
theorem kcinjT (a b : TlK) (h : kcT a = kcT b) : a = b := by
  cases a; cases b; simp [kcT] at h; obtain ⟨rfl, rfl, rfl⟩ := h; rfl
theorem injT (a b : TlK) (ha : kwT a) (hb : kwT b) (h : klT a = klT b) : a = b := by
  have h1 := lawT.inj (keyT ha) ((keyT hb).trans (by rw [h]))
  injection h1 with h1
  exact kcinjT a b (Array.toList_inj.2 h1)
theorem keylitT (k : TlK) (h : kwT k) : WideAt.IsKeyLit (klT k) := (lawT).key (keyT h)
theorem zeroET (w : World) : (zeroValue 3).run Tryd.prog w = .ok (.int .i64 0) w := by kernel_rfl
def CaBzT (r bm g : Nat) (sf : Value) (k : Nat) : Prop := k = r ∨ k = bm ∨ k = g ∨ sf.ownBlock = some k
/-- a cache that is there and from which nothing went: what it holds, its blocks -/
def CaYT (base : Nat) (w : World) (r most : Nat) (es : List (TlK × (List UInt8))) (B : Nat → Prop) : Prop :=
  most ≤ 1024 ∧ ∃ (bm : Nat) (its : List (CaI TlK (List UInt8))) (g n c : Nat) (cur : Array Value) (sf : Value) (D : DataW Unit) (o : List Nat), CaMT base w r bm most its g n c cur [] sf D ∧ CaV klT kwT most its o [] D es ∧ ∀ k, B k ↔ CaBzT r bm g sf k
/-- what a call that turns it leaves -/
def CaUT (base : Nat) (w w' : World) (r most : Nat) (es : List (TlK × (List UInt8))) (B : Nat → Prop) : Prop :=
  ∃ B', CaYT base w' r most es B' ∧ Keep B w w' ∧ ∀ k, B' k → B k ∨ w.heap.size ≤ k
theorem CaYT.lt {base : Nat} {w : World} {r most : Nat} {es : List (TlK × (List UInt8))} {B : Nat → Prop} (h : CaYT base w r most es B) (k : Nat) (hk : B k) : k < w.heap.size := by
  obtain ⟨_, bm, its, g, n, c, cur, sf, D, o, m, v, hB⟩ := h
  rcases (hB k).1 hk with rfl | rfl | rfl | h
  · exact (Array.getElem?_eq_some_iff.1 m.hb).1
  · exact m.map.lt
  · exact (Array.getElem?_eq_some_iff.1 m.row.hb).1
  · exact ownsRow_lt m.fre k h
theorem CaYT.ge {base : Nat} {w : World} {r most : Nat} {es : List (TlK × (List UInt8))} {B : Nat → Prop} (h : CaYT base w r most es B) (k : Nat) (hk : B k) : base ≤ k := by
  obtain ⟨_, bm, its, g, n, c, cur, sf, D, o, m, v, hB⟩ := h
  rcases (hB k).1 hk with rfl | rfl | rfl | h
  · exact m.br
  · exact m.bb
  · exact m.row.bb
  · exact ownsRow_fresh m.fre k h
theorem CaMT.keptAll {base : Nat} {w w' : World} {r bm most : Nat} {its : List (CaI TlK (List UInt8))} {g n c : Nat} {cur : Array Value} {fr : List Nat} {sf : Value} {D : DataW Unit} {T : Nat → Prop} (h : CaMT base w r bm most its g n c cur fr sf D) (k : Keep T w w')
    (h1 : ¬ T r) (h2 : ¬ T bm) (h3 : ¬ T g) (h4 : ∀ j, sf.ownBlock = some j → ¬ T j) : CaMT base w' r bm most its g n c cur fr sf D := by
  obtain ⟨es, clock, hm, hF⟩ := h.map
  exact ⟨(k.block r (Array.getElem?_eq_some_iff.1 h.hb).1 h1).trans h.hb, h.br, h.bb, h.nl, h.row.kept (k.block g (Array.getElem?_eq_some_iff.1 h.row.hb).1 h3), ownsRow_keep' h.fre fun j hj => k.block j (ownsRow_lt h.fre j hj) (h4 j hj), ⟨es, clock, (k.block bm (Array.getElem?_eq_some_iff.1 hm).1 h2).trans hm, hF⟩, h.sz⟩
theorem CaYT.kept {base : Nat} {w w' : World} {r most : Nat} {es : List (TlK × (List UInt8))} {B T : Nat → Prop} (h : CaYT base w r most es B) (k : Keep T w w') (hd : ∀ j, B j → ¬ T j) : CaYT base w' r most es B := by
  obtain ⟨h0, bm, its, g, n, c, cur, sf, D, o, m, v, hB⟩ := h
  exact ⟨h0, bm, its, g, n, c, cur, sf, D, o, m.keptAll k (hd _ ((hB _).2 (.inl rfl))) (hd _ ((hB _).2 (.inr (.inl rfl)))) (hd _ ((hB _).2 (.inr (.inr (.inl rfl))))) (fun j hj => hd _ ((hB _).2 (.inr (.inr (.inr hj))))), v, hB⟩
theorem CaYT.below {base : Nat} {w w' : World} {r most : Nat} {es : List (TlK × (List UInt8))} {B : Nat → Prop} (h : CaYT base w r most es B) (k : Below w.heap.size w w') : CaYT base w' r most es B := h.kept (Keep.of_below k (fun _ => False)) (fun _ _ h => h)
theorem CaYT.mono {base base' : Nat} {w : World} {r most : Nat} {es : List (TlK × (List UInt8))} {B : Nat → Prop} (h : CaYT base w r most es B) (hb : base' ≤ base) : CaYT base' w r most es B := by
  obtain ⟨h0, bm, its, g, n, c, cur, sf, D, o, m, v, hB⟩ := h
  exact ⟨h0, bm, its, g, n, c, cur, sf, D, o, ⟨m.hb, Nat.le_trans hb m.br, Nat.le_trans hb m.bb, m.nl, { m.row with bb := Nat.le_trans hb m.row.bb }, ownsRow_mono m.fre hb, m.map, m.sz⟩, v, hB⟩
def VTg3 (r most bm g n c i G1 : Nat) (sf : Value) (k : TlK) (ci : Int) (oi : Nat) (v : Value) (own : Nat → Option Nat) (w : World) : Prop :=
  match oi with
  | 0 => v = .pointer (some ⟨r, 0, none⟩)
  | 1 => v = .pointer (some ⟨r, 0, none⟩)
  | 2 => v = .pointer (some ⟨r, 1, none⟩)
  | 3 => v = .map (some bm)
  | 4 => v = .agg (kcT k).toArray
  | 5 => v = .tuple #[.int .i64 ci, .bool true]
  | 6 => v = .tuple #[.int .i64 ci, .bool true]
  | 7 => v = .int .i64 ci
  | 8 => v = .bool true
  | 9 => v = .int .i64 ci
  | 10 => v = .bool true
  | _ => True
def VTg3mk : Nat → Option Nat := fun _ => none
theorem VTg3_mono (r most bm g n c i G1 : Nat) (sf : Value) (k : TlK) (ci : Int) (oi oj : Nat) (v : Value) (own : Nat → Option Nat) (w : World) (own' : Nat → Option Nat) (w' : World) (hij : oi ≠ oj)   (h : VTg3 r most bm g n c i G1 sf k ci oj v own w) (r1 : Rel VTg3mk oi own w own' w') : VTg3 r most bm g n c i G1 sf k ci oj v own' w' := by
  unfold VTg3 at h ⊢
  split at h
  · exact h
  · exact h
  · exact h
  · exact h
  · exact h
  · exact h
  · exact h
  · exact h
  · exact h
  · exact h
  · exact h
  · trivial

set_option maxHeartbeats 3200000 in
theorem ygetT (base : Nat) (w : World) (r most : Nat) (es : List (TlK × (List UInt8))) (B : Nat → Prop) (h : CaYT base w r most es B) (k : TlK) (hk : kwT k) (t : Nat) (ht : t < es.length) (hke : es[t].1 = k) :
    Calls Tryd.prog 11 #[.pointer (some ⟨r, 0, none⟩), .agg (kcT k).toArray] w fun e w' => e = .returned (.tuple #[.agg (vcT es[t].2).toArray, .bool true]) ∧ CaUT base w w' r most (es[t] :: es.eraseIdx t) B := by
  obtain ⟨h0, bm, its, g, n, c, cur, sf, D, o, m, v, hB⟩ := h
  have hto : t < o.length := by rw [v.len]; exact ht
  have hh : Maps.has D (klT k) = true := (v.has k hk).2 (hke ▸ List.mem_map.2 ⟨_, List.getElem_mem ht, rfl⟩)
  have hat0 := v.at' _ (List.getElem_mem hto) _ (v.kvt ht) (.lit (.int .i64 0))
  rw [hke] at hat0
  obtain ⟨fb, fv⟩ := v.front ht hto
  have hkt := v.kvt ht
  obtain ⟨l1, l2, l3⟩ := v.lt hto
  obtain ⟨x, hx⟩ : ∃ x, x = es[t] := ⟨_, rfl⟩
  rw [← hx] at fv hkt ⊢
  obtain ⟨i, hi⟩ : ∃ i, i = o[t] := ⟨_, rfl⟩
  rw [← hi] at fb fv hkt l1 l2 l3 hat0
  obtain ⟨ci, hci⟩ : ∃ ci : Int, ci = (i : Int) := ⟨_, rfl⟩
  rw [← hci] at hat0
  have LK0 : Bx (∀ u, Below w.heap.size w u → (Instr.lookup 73 (.map (some bm)) (.agg (kcT k).toArray) true).run Tryd.prog u = .ok (.tuple #[.int .i64 ci, .bool true]) u) := ⟨fun u hu => by
    have h1 := look_z (ownsMap_belowz m.map hu) lawT Tryd.underlying73 Tryd.underlying3 zeroET (keyT hk) hat0
    rw [hh] at h1
    exact h1⟩
  have FB := Bx.mk fb; have FV := Bx.mk fv; have KT := Bx.mk hkt; have L1 := Bx.mk l1; have L2 := Bx.mk l2; have L3 := Bx.mk l3; have H1024 := Bx.mk h0; have HKL := Bx.mk hk.1; have HC := Bx.mk hci; have M0 := Bx.mk m; have HBB := Bx.mk hB
  have XSZ : Bx (x.2.length = 32) := ⟨by have h1 := hkt; unfold kvF at h1; obtain ⟨y, h2, rfl⟩ := Option.map_eq_some_iff.1 h1; obtain ⟨q1, q2⟩ := List.getElem?_eq_some_iff.1 h2; have h3 := (m.sz _ (List.mem_of_getElem? h2)).2; unfold vcT at h3; rw [blen] at h3; exact h3⟩

  have M0w := Bx.mk m
  clear v hB hk h0 fb fv hkt l1 l2 l3 hat0 hh hx hi ht hto hke hci m
  have kbw := (er_al ((er_al (Below.refl w.heap.size w) (.cells (kcT k).toArray 30))) (.cells (bcells zH).toArray 32))
  have xG1 := ((er_al (Below.refl (w.alloc (.cells (kcT k).toArray 30)).heap.size (w.alloc (.cells (kcT k).toArray 30))) (.cells (bcells zH).toArray 32)).block _ (Array.getElem?_eq_some_iff.1 (heap_alloc_new w (.cells (kcT k).toArray 30))).1).trans (heap_alloc_new w (.cells (kcT k).toArray 30))
  have xG2 := heap_alloc_new (w.alloc (.cells (kcT k).toArray 30)) (.cells (bcells zH).toArray 32)
  rw [show (w.alloc (.cells (kcT k).toArray 30)).heap.size = w.heap.size + 1 by simp] at xG2
  go_enter Tryd.func11, Tryd.ntmps11
  go_upto_region 1 with (fail)
  change Code.wp _ _ _ _ ((w.alloc (.cells (kcT k).toArray 30)).alloc (.cells (bcells zH).toArray 32))
  generalize ((w.alloc (.cells (kcT k).toArray 30)).alloc (.cells (bcells zH).toArray 32)) = W at kbw xG1 xG2 ⊢
  obtain ⟨G2, hG2⟩ : ∃ q, q = w.heap.size + 1 := ⟨_, rfl⟩
  rw [← hG2] at xG2 ⊢
  obtain ⟨G1, hG1⟩ : ∃ q, q = w.heap.size := ⟨_, rfl⟩
  rw [← hG1] at xG1 ⊢
  have XG1 := Bx.mk xG1; have HG1 := Bx.mk (show w.heap.size ≤ G1 by omega)
  have XG2 := Bx.mk xG2; have HG2 := Bx.mk (show w.heap.size ≤ G2 by omega)
  have NG1G2 := Bx.mk (show G1 ≠ G2 by omega)
  have KBW := Bx.mk kbw
  clear kbw xG1 xG2 hG1 hG2
  have MW := Bx.mk (M0.out.below KBW.out)
  have c1 := er_cellAt MW.out.hb 1 _ rfl
  have hmn := fun w => run_eql_map_nil (P := Tryd.prog) w 73 30 3 (some bm) Tryd.underlying73
  have LK := Bx.mk (fun u (hu : Below W.heap.size W u) => LK0.out u (KBW.out.trans (hu.mono KBW.out.size)))
  have XR := Bx.mk MW.out.hb
  go_upto_region 3 with (fail)
  clear c1 hmn
  refine wp_region_own8 (n := 43) VTg3mk (fun _ => none) (VTg3 r most bm g n c i G1 sf k ci) (by kernel_rfl) (by kernel_rfl) rfl (fun _ _ => rfl) (fun j i hj _ => by cases hj) ?_ ?_ ?_
  · exact fun oi oj v own w own' w' hij _ h r1 => VTg3_mono r most bm g n c i G1 sf k ci oi oj v own w own' w' hij h r1
  · intro oi o hi f u own hsame hsn hfr hlate hkeep8 hdep
    have hkeep := hkeep8 _ (.inl rfl)
    have hb6 := hsn.below (B := W.heap.size) (fun _ _ => rfl) (Nat.le_refl _)
    match oi, hi with
    | 0, hi =>
      cases (show some _ = some o from hi)
      have e0 : f.tmps.getD 0 undef = .pointer (some ⟨r, 0, none⟩) := hsame.slot 0 (fun i o h => invB2_not 0 (by kernel_rfl) h)
      clear hdep hsame hi hlate hfr hkeep
      exact .inl ⟨wanted_none rfl, showsO_move hsn rfl _ rfl e0⟩
    | 1, hi =>
      cases (show some _ = some o from hi)
      have e18 : (f.tmps.getD 18 undef) = .pointer (some ⟨r, 0, none⟩) := depO (V := (VTg3 r most bm g n c i G1 sf k ci)) hdep 0 18 (by kernel_rfl) (by kernel_rfl)
      clear hdep hsame hi hlate hfr hkeep
      exact .inl ⟨wanted_none rfl, showsO_pure hsn rfl (.pointer (some ⟨r, 0, none⟩)) (by simp only [execOp, Act.eval]; go_simp) rfl⟩
    | 2, hi =>
      cases (show some _ = some o from hi)
      have e19 : (f.tmps.getD 19 undef) = .pointer (some ⟨r, 0, none⟩) := depO (V := (VTg3 r most bm g n c i G1 sf k ci)) hdep 1 19 (by kernel_rfl) (by kernel_rfl)
      clear hdep hsame hi hlate hfr hkeep
      exact .inl ⟨wanted_none rfl, showsO_pure hsn rfl (.pointer (some ⟨r, 1, none⟩)) (by simp only [execOp, Act.eval]; go_simp) rfl⟩
    | 3, hi =>
      cases (show some _ = some o from hi)
      have e20 : (f.tmps.getD 20 undef) = .pointer (some ⟨r, 1, none⟩) := depO (V := (VTg3 r most bm g n c i G1 sf k ci)) hdep 2 20 (by kernel_rfl) (by kernel_rfl)
      clear hdep hsame hi hlate hfr hkeep
      have c21 := er_cellAt ((hb6.block _ (Array.getElem?_eq_some_iff.1 XR.out).1).trans XR.out) (1) _ rfl
      exact .inl ⟨wanted_none rfl, showsO_pure hsn rfl (.map (some bm)) (by simp only [execOp, Act.eval]; go_simp) rfl⟩
    | 4, hi =>
      cases (show some _ = some o from hi)
      have e3 : f.tmps.getD 3 undef = .pointer (some ⟨G1, 0, none⟩) := hsame.slot 3 (fun i o h => invB2_not 3 (by kernel_rfl) h)
      clear hdep hsame hi hlate hfr hkeep
      exact .inl ⟨wanted_none rfl, showsO_row hsn rfl 30 (.tmp 3) rfl G1 e3 (kcT k).toArray ((hb6.block _ (Array.getElem?_eq_some_iff.1 XG1.out).1).trans XG1.out) Tryd.underlying30 rfl szT rfl⟩
    | 5, hi =>
      cases (show some _ = some o from hi)
      have e21 : (f.tmps.getD 21 undef) = .map (some bm) := depO (V := (VTg3 r most bm g n c i G1 sf k ci)) hdep 3 21 (by kernel_rfl) (by kernel_rfl)
      have e22 : (f.tmps.getD 22 undef) = .agg (kcT k).toArray := depO (V := (VTg3 r most bm g n c i G1 sf k ci)) hdep 4 22 (by kernel_rfl) (by kernel_rfl)
      clear hdep hsame hi hlate hfr hkeep
      have hlk := LK.out u hb6
      exact .inl ⟨wanted_none rfl, showsO_pure hsn rfl (.tuple #[.int .i64 ci, .bool true]) (by simp only [execOp, Act.eval]; go_simp) rfl⟩
    | 6, hi =>
      cases (show some _ = some o from hi)
      have e23 : (f.tmps.getD 23 undef) = .tuple #[.int .i64 ci, .bool true] := depO (V := (VTg3 r most bm g n c i G1 sf k ci)) hdep 5 23 (by kernel_rfl) (by kernel_rfl)
      clear hdep hsame hi hlate hfr hkeep
      exact .inl ⟨wanted_none rfl, showsO_move hsn rfl _ rfl e23⟩
    | 7, hi =>
      cases (show some _ = some o from hi)
      have e17 : (f.tmps.getD 17 undef) = .tuple #[.int .i64 ci, .bool true] := depO (V := (VTg3 r most bm g n c i G1 sf k ci)) hdep 6 17 (by kernel_rfl) (by kernel_rfl)
      clear hdep hsame hi hlate hfr hkeep
      exact .inl ⟨wanted_none rfl, showsO_pure hsn rfl (.int .i64 ci) (by simp only [execOp, Act.eval]; go_simp) rfl⟩
    | 8, hi =>
      cases (show some _ = some o from hi)
      have e17 : (f.tmps.getD 17 undef) = .tuple #[.int .i64 ci, .bool true] := depO (V := (VTg3 r most bm g n c i G1 sf k ci)) hdep 6 17 (by kernel_rfl) (by kernel_rfl)
      clear hdep hsame hi hlate hfr hkeep
      exact .inl ⟨wanted_none rfl, showsO_pure hsn rfl (.bool true) (by simp only [execOp, Act.eval]; go_simp) rfl⟩
    | 9, hi =>
      cases (show some _ = some o from hi)
      have e24 : (f.tmps.getD 24 undef) = .int .i64 ci := depO (V := (VTg3 r most bm g n c i G1 sf k ci)) hdep 7 24 (by kernel_rfl) (by kernel_rfl)
      clear hdep hsame hi hlate hfr hkeep
      exact .inl ⟨wanted_none rfl, showsO_assign hsn rfl _ rfl e24⟩
    | 10, hi =>
      cases (show some _ = some o from hi)
      have e25 : (f.tmps.getD 25 undef) = .bool true := depO (V := (VTg3 r most bm g n c i G1 sf k ci)) hdep 8 25 (by kernel_rfl) (by kernel_rfl)
      clear hdep hsame hi hlate hfr hkeep
      exact .inl ⟨wanted_none rfl, showsO_assign hsn rfl _ rfl e25⟩
    | n + 11, hi => exact absurd hi (by simp)
  intro fr u0 own hsame hsn hall
  have q18 : fr.tmps.getD 18 undef = .pointer (some ⟨r, 0, none⟩) := finO (V := (VTg3 r most bm g n c i G1 sf k ci)) hall 0 18 rfl
  have q19 : fr.tmps.getD 19 undef = .pointer (some ⟨r, 0, none⟩) := finO (V := (VTg3 r most bm g n c i G1 sf k ci)) hall 1 19 rfl
  have q20 : fr.tmps.getD 20 undef = .pointer (some ⟨r, 1, none⟩) := finO (V := (VTg3 r most bm g n c i G1 sf k ci)) hall 2 20 rfl
  have q21 : fr.tmps.getD 21 undef = .map (some bm) := finO (V := (VTg3 r most bm g n c i G1 sf k ci)) hall 3 21 rfl
  have q22 : fr.tmps.getD 22 undef = .agg (kcT k).toArray := finO (V := (VTg3 r most bm g n c i G1 sf k ci)) hall 4 22 rfl
  have q23 : fr.tmps.getD 23 undef = .tuple #[.int .i64 ci, .bool true] := finO (V := (VTg3 r most bm g n c i G1 sf k ci)) hall 5 23 rfl
  have q17 : fr.tmps.getD 17 undef = .tuple #[.int .i64 ci, .bool true] := finO (V := (VTg3 r most bm g n c i G1 sf k ci)) hall 6 17 rfl
  have q24 : fr.tmps.getD 24 undef = .int .i64 ci := finO (V := (VTg3 r most bm g n c i G1 sf k ci)) hall 7 24 rfl
  have q25 : fr.tmps.getD 25 undef = .bool true := finO (V := (VTg3 r most bm g n c i G1 sf k ci)) hall 8 25 rfl
  have q6 : fr.tmps.getD 6 undef = .int .i64 ci := finO (V := (VTg3 r most bm g n c i G1 sf k ci)) hall 9 6 rfl
  have q5 : fr.tmps.getD 5 undef = .bool true := finO (V := (VTg3 r most bm g n c i G1 sf k ci)) hall 10 5 rfl
  obtain rfl := frame_eq hsame [(18, .pointer (some ⟨r, 0, none⟩)), (19, .pointer (some ⟨r, 0, none⟩)), (20, .pointer (some ⟨r, 1, none⟩)), (21, .map (some bm)), (22, .agg (kcT k).toArray), (23, .tuple #[.int .i64 ci, .bool true]), (17, .tuple #[.int .i64 ci, .bool true]), (24, .int .i64 ci), (25, .bool true), (6, .int .i64 ci), (5, .bool true)] (by kernel_rfl) ⟨q18, q19, q20, q21, q22, q23, q17, q24, q25, q6, q5, trivial⟩
  clear hall hsame q18 q19 q20 q21 q22 q23 q17 q24 q25 q6 q5
  simp only [List.foldl, List.setIfInBounds_toArray, List.set_cons_succ, List.set_cons_zero]
  have hb := hsn.below (B := W.heap.size) (fun _ _ => rfl) (Nat.le_refl _)
  have M1 := Bx.mk (MW.out.below hb); have K1 := Bx.mk (KBW.out.trans (hb.mono KBW.out.size))
  have XZ := Bx.mk ((hb.block G2 (Array.getElem?_eq_some_iff.1 XG2.out).1).trans XG2.out)
  clear hb hsn MW XR LK LK0
  obtain rfl := HC.out
  go_wp2_with fail
  refine (out_anyT base u0 r bm most its g n c cur [] sf D M1.out i L1.out L2.out L3.out).mono ?_
  rintro e w1 ⟨rfl, cur1, m1, k1⟩
  have M2 := Bx.mk m1; have K2 := Bx.mk ((Keep.of_below K1.out (fun j => j = g)).trans k1 (fun _ _ h => h))
  have GL := Bx.mk (show g < w.heap.size from (Array.getElem?_eq_some_iff.1 M0.out.row.hb).1)
  have XZ1 := Bx.mk ((k1.block G2 (Array.getElem?_eq_some_iff.1 XZ.out).1 (fun e => by have h1 := GL.out; have h2 := HG2.out; omega)).trans XZ.out)
  clear m1 k1
  go_wp2_with fail
  refine (first_anyT base w1 r bm most _ g n c cur1 [] sf D M2.out i (by rw [outI_len]; exact L1.out) (by rw [outI_len]; exact FB.out)).mono ?_
  rintro e w2 ⟨rfl, cur2, m2, k2⟩
  have M3 := Bx.mk m2; have K3 := Bx.mk (K2.out.trans k2 (fun _ _ h => h))
  have XZ2 := Bx.mk ((k2.block G2 (Array.getElem?_eq_some_iff.1 XZ1.out).1 (fun e => by have h1 := GL.out; have h2 := HG2.out; omega)).trans XZ1.out)
  have c2 := er_cellAt m2.hb 2 _ rfl
  have rv := (item_rangez m2.row m2.sz (i := i) (x := x) (by rw [firstI_kv, outI_kv]; exact KT.out)).1
  have RV := Bx.mk rv

  have f3 : (i : Int) < (n : Int) := by have := L1.out; have := M0.out.nl; omega
  clear m2 k2 M1 K1 M2 K2 rv
  go_wp2_with (first
    | (guard_target =~ wpList _ _ _ (⟨some 42, _, _, _, _, _⟩ :: _) _ _; refine wpList_load_mid rfl 32 (.tmp 41) rfl g (i * 37 + 3) rfl (bcells x.2) _ RV.out underHz rfl (hszl XSZ.out) ?_)
    | (guard_target =~ wpList _ _ _ (⟨none, _, _, _, _, _⟩ :: _) _ _; refine wpList_store_row rfl 32 (.tmp 4) (.tmp 42) rfl G2 (bcells x.2).toArray rfl rfl _ _ XZ2.out (hsz XSZ.out) (by simp [blen, XSZ.out, zH]) (bone _) ?_))
  have k4 : Keep (fun j => j = G2) w2 (w2.setRow G2 (bcells x.2).toArray) := Keep.setRow w2 G2 _
  have KF := K3.out.trans (k4.mono (S' := fun j => j = g ∨ w.heap.size ≤ j) (fun j _ e => .inr (by have e : j = G2 := e; rw [e]; exact HG2.out))) (fun j hj h => by rcases h with h | h; exact h; omega)
  have MF := M3.out.keptAll k4 (fun e => by have h1 := (Array.getElem?_eq_some_iff.1 M0.out.hb).1; have h2 := HG2.out; have e : r = G2 := e; omega) (fun e => by have h1 := M0.out.map.lt; have h2 := HG2.out; have e : bm = G2 := e; omega) (fun e => by have h1 := GL.out; have h2 := HG2.out; have e : g = G2 := e; omega) (fun j hj e => by have h1 := ownsRow_lt M0.out.fre j hj; have h2 := HG2.out; have e : j = G2 := e; omega)
  exact bodyPost_ret (res_cs rfl _ _ G2 _ (bcells x.2).toArray _ rfl (setRow_heap _ _ _ _ _ _ XZ2.out) rfl underHz (hsz XSZ.out)) rfl ⟨rfl, ⟨B, ⟨H1024.out, bm, _, g, n, c, cur2, sf, D, _, MF, FV.out, HBB.out⟩, KF.mono (fun j _ hj => (HBB.out j).2 (.inr (.inr (.inl hj)))), fun k hk => .inl hk⟩⟩
def VTh3 (r most bm g n c i G1 : Nat) (sf : Value) (k : TlK) (ci : Int) (oi : Nat) (v : Value) (own : Nat → Option Nat) (w : World) : Prop :=
  match oi with
  | 0 => v = .pointer (some ⟨r, 0, none⟩)
  | 1 => v = .pointer (some ⟨r, 0, none⟩)
  | 2 => v = .pointer (some ⟨r, 1, none⟩)
  | 3 => v = .map (some bm)
  | 4 => v = .agg (kcT k).toArray
  | 5 => v = .tuple #[.int .i64 ci, .bool true]
  | 6 => v = .tuple #[.int .i64 ci, .bool true]
  | 7 => v = .int .i64 ci
  | 8 => v = .bool true
  | 9 => v = .int .i64 ci
  | 10 => v = .bool true
  | _ => True
def VTh3mk : Nat → Option Nat := fun _ => none
theorem VTh3_mono (r most bm g n c i G1 : Nat) (sf : Value) (k : TlK) (ci : Int) (oi oj : Nat) (v : Value) (own : Nat → Option Nat) (w : World) (own' : Nat → Option Nat) (w' : World) (hij : oi ≠ oj)   (h : VTh3 r most bm g n c i G1 sf k ci oj v own w) (r1 : Rel VTh3mk oi own w own' w') : VTh3 r most bm g n c i G1 sf k ci oj v own' w' := by
  unfold VTh3 at h ⊢
  split at h
  · exact h
  · exact h
  · exact h
  · exact h
  · exact h
  · exact h
  · exact h
  · exact h
  · exact h
  · exact h
  · exact h
  · trivial

def VTh5 (r bm most g n c i G2 : Nat) (sf : Value) (x : (List UInt8)) (oi : Nat) (v : Value) (own : Nat → Option Nat) (w : World) : Prop :=
  match oi with
  | 0 => v = .pointer (some ⟨r, 0, none⟩)
  | 1 => v = .pointer (some ⟨r, 0, none⟩)
  | 2 => v = .pointer (some ⟨r, 2, none⟩)
  | 3 => v = .slice (some ⟨g, 0, none⟩) n c
  | 4 => v = .int .i64 (i : Int)
  | 5 => v = .agg (bcells x).toArray
  | 6 => v = .pointer (some ⟨g, i * 37, none⟩)
  | 7 => v = .pointer (some ⟨g, i * 37 + 3, none⟩)
  | _ => True
def VTh5mk : Nat → Option Nat := fun _ => none
theorem VTh5_mono (r bm most g n c i G2 : Nat) (sf : Value) (x : (List UInt8)) (oi oj : Nat) (v : Value) (own : Nat → Option Nat) (w : World) (own' : Nat → Option Nat) (w' : World) (hij : oi ≠ oj)   (h : VTh5 r bm most g n c i G2 sf x oj v own w) (r1 : Rel VTh5mk oi own w own' w') : VTh5 r bm most g n c i G2 sf x oj v own' w' := by
  unfold VTh5 at h ⊢
  split at h
  · exact h
  · exact h
  · exact h
  · exact h
  · exact h
  · exact h
  · exact h
  · exact h
  · trivial

set_option maxHeartbeats 3200000 in
theorem yput_hitT (base : Nat) (w : World) (r most : Nat) (es : List (TlK × (List UInt8))) (B : Nat → Prop) (hbase : base ≤ w.heap.size) (h : CaYT base w r most es B) (k : TlK) (hk : kwT k) (x : (List UInt8)) (hxl : x.length = 32) (t : Nat) (ht : t < es.length) (hke : es[t].1 = k) :
    Calls Tryd.prog 9 #[.pointer (some ⟨r, 0, none⟩), .agg (kcT k).toArray, .agg (vcT x).toArray] w fun e w' => e = .returned (.tuple #[.agg (kcT ⟨0, 0, 0⟩).toArray, .bool false]) ∧ CaUT base w w' r most ((k, x) :: es.eraseIdx t) B := by
  obtain ⟨h0, bm, its, g, n, c, cur, sf, D, o, m, v, hB⟩ := h
  have hto : t < o.length := by rw [v.len]; exact ht
  have hh : Maps.has D (klT k) = true := (v.has k hk).2 (hke ▸ List.mem_map.2 ⟨_, List.getElem_mem ht, rfl⟩)
  have hat0 := v.at' _ (List.getElem_mem hto) _ (v.kvt ht) (.lit (.int .i64 0))
  rw [hke] at hat0
  have v1 := v.setv ht hto x
  have ht1 : t < (es.set t (es[t].1, x)).length := by rw [List.length_set]; exact ht
  obtain ⟨fb, fv⟩ := v1.front ht1 hto
  rw [List.getElem_set_self, List.eraseIdx_set_eq, hke] at fv
  obtain ⟨l1, l2, l3⟩ := v1.lt hto
  obtain ⟨i, hi⟩ : ∃ i, i = o[t] := ⟨_, rfl⟩
  rw [← hi] at fb fv l1 l2 l3 hat0
  obtain ⟨ci, hci⟩ : ∃ ci : Int, ci = (i : Int) := ⟨_, rfl⟩
  rw [← hci] at hat0
  have LK0 : Bx (∀ u, Below w.heap.size w u → (Instr.lookup 73 (.map (some bm)) (.agg (kcT k).toArray) true).run Tryd.prog u = .ok (.tuple #[.int .i64 ci, .bool true]) u) := ⟨fun u hu => by
    have h1 := look_z (ownsMap_belowz m.map hu) lawT Tryd.underlying73 Tryd.underlying3 zeroET (keyT hk) hat0
    rw [hh] at h1
    exact h1⟩
  have FB := Bx.mk fb; have FV := Bx.mk fv; have L1 := Bx.mk l1; have L2 := Bx.mk l2; have L3 := Bx.mk l3; have H1024 := Bx.mk h0; have HKL := Bx.mk hk.1; have HC := Bx.mk hci; have M0 := Bx.mk m; have HBB := Bx.mk hB
  have IL0 := Bx.mk (show i < its.length by rw [setV_len] at l1; exact l1)

  have HXL := Bx.mk hxl
  clear v v1 hB hk h0 fb fv l1 l2 l3 hat0 hh hi ht ht1 hto hke hci m hbase hxl
  have kbw := (er_al ((er_al ((er_al (Below.refl w.heap.size w) (.cells (kcT k).toArray 30))) (.cells (bcells x).toArray 32))) (.cells (kcT ⟨0, 0, 0⟩).toArray 30))
  have xG1 := ((er_al (Below.refl ((w.alloc (.cells (kcT k).toArray 30)).alloc (.cells (bcells x).toArray 32)).heap.size ((w.alloc (.cells (kcT k).toArray 30)).alloc (.cells (bcells x).toArray 32))) (.cells (kcT ⟨0, 0, 0⟩).toArray 30)).block _ (Array.getElem?_eq_some_iff.1 (((er_al (Below.refl (w.alloc (.cells (kcT k).toArray 30)).heap.size (w.alloc (.cells (kcT k).toArray 30))) (.cells (bcells x).toArray 32)).block _ (Array.getElem?_eq_some_iff.1 (heap_alloc_new w (.cells (kcT k).toArray 30))).1).trans (heap_alloc_new w (.cells (kcT k).toArray 30)))).1).trans (((er_al (Below.refl (w.alloc (.cells (kcT k).toArray 30)).heap.size (w.alloc (.cells (kcT k).toArray 30))) (.cells (bcells x).toArray 32)).block _ (Array.getElem?_eq_some_iff.1 (heap_alloc_new w (.cells (kcT k).toArray 30))).1).trans (heap_alloc_new w (.cells (kcT k).toArray 30)))
  have xG2 := ((er_al (Below.refl ((w.alloc (.cells (kcT k).toArray 30)).alloc (.cells (bcells x).toArray 32)).heap.size ((w.alloc (.cells (kcT k).toArray 30)).alloc (.cells (bcells x).toArray 32))) (.cells (kcT ⟨0, 0, 0⟩).toArray 30)).block _ (Array.getElem?_eq_some_iff.1 (heap_alloc_new (w.alloc (.cells (kcT k).toArray 30)) (.cells (bcells x).toArray 32))).1).trans (heap_alloc_new (w.alloc (.cells (kcT k).toArray 30)) (.cells (bcells x).toArray 32))
  rw [show (w.alloc (.cells (kcT k).toArray 30)).heap.size = w.heap.size + 1 by simp] at xG2
  have xG3 := heap_alloc_new ((w.alloc (.cells (kcT k).toArray 30)).alloc (.cells (bcells x).toArray 32)) (.cells (kcT ⟨0, 0, 0⟩).toArray 30)
  rw [show ((w.alloc (.cells (kcT k).toArray 30)).alloc (.cells (bcells x).toArray 32)).heap.size = w.heap.size + 2 by simp] at xG3
  go_enter Tryd.func9, Tryd.ntmps9
  go_upto_region 1 with (fail)
  change Code.wp _ _ _ _ (((w.alloc (.cells (kcT k).toArray 30)).alloc (.cells (bcells x).toArray 32)).alloc (.cells (kcT ⟨0, 0, 0⟩).toArray 30))
  generalize (((w.alloc (.cells (kcT k).toArray 30)).alloc (.cells (bcells x).toArray 32)).alloc (.cells (kcT ⟨0, 0, 0⟩).toArray 30)) = W at kbw xG1 xG2 xG3 ⊢
  obtain ⟨G3, hG3⟩ : ∃ q, q = w.heap.size + 2 := ⟨_, rfl⟩
  rw [← hG3] at xG3 ⊢
  obtain ⟨G2, hG2⟩ : ∃ q, q = w.heap.size + 1 := ⟨_, rfl⟩
  rw [← hG2] at xG2 ⊢
  obtain ⟨G1, hG1⟩ : ∃ q, q = w.heap.size := ⟨_, rfl⟩
  rw [← hG1] at xG1 ⊢
  have XG1 := Bx.mk xG1; have HG1 := Bx.mk (show w.heap.size ≤ G1 by omega)
  have XG2 := Bx.mk xG2; have HG2 := Bx.mk (show w.heap.size ≤ G2 by omega)
  have XG3 := Bx.mk xG3; have HG3 := Bx.mk (show w.heap.size ≤ G3 by omega)
  have NG1G2 := Bx.mk (show G1 ≠ G2 by omega)
  have NG1G3 := Bx.mk (show G1 ≠ G3 by omega)
  have NG2G3 := Bx.mk (show G2 ≠ G3 by omega)
  have KBW := Bx.mk kbw
  clear kbw xG1 xG2 xG3 hG1 hG2 hG3
  have MW := Bx.mk (M0.out.below KBW.out)
  have c1 := er_cellAt MW.out.hb 1 _ rfl
  have hmn := fun w => run_eql_map_nil (P := Tryd.prog) w 73 30 3 (some bm) Tryd.underlying73
  have LK := Bx.mk (fun u (hu : Below W.heap.size W u) => LK0.out u (KBW.out.trans (hu.mono KBW.out.size)))
  have XR := Bx.mk MW.out.hb
  go_upto_region 3 with (fail)
  clear c1 hmn
  refine wp_region_own8 (n := 149) VTh3mk (fun _ => none) (VTh3 r most bm g n c i G1 sf k ci) (by kernel_rfl) (by kernel_rfl) rfl (fun _ _ => rfl) (fun j i hj _ => by cases hj) ?_ ?_ ?_
  · exact fun oi oj v own w own' w' hij _ h r1 => VTh3_mono r most bm g n c i G1 sf k ci oi oj v own w own' w' hij h r1
  · intro oi o hi f u own hsame hsn hfr hlate hkeep8 hdep
    have hkeep := hkeep8 _ (.inl rfl)
    have hb6 := hsn.below (B := W.heap.size) (fun _ _ => rfl) (Nat.le_refl _)
    match oi, hi with
    | 0, hi =>
      cases (show some _ = some o from hi)
      have e0 : f.tmps.getD 0 undef = .pointer (some ⟨r, 0, none⟩) := hsame.slot 0 (fun i o h => invB2_not 0 (by kernel_rfl) h)
      clear hdep hsame hi hlate hfr hkeep
      exact .inl ⟨wanted_none rfl, showsO_move hsn rfl _ rfl e0⟩
    | 1, hi =>
      cases (show some _ = some o from hi)
      have e24 : (f.tmps.getD 24 undef) = .pointer (some ⟨r, 0, none⟩) := depO (V := (VTh3 r most bm g n c i G1 sf k ci)) hdep 0 24 (by kernel_rfl) (by kernel_rfl)
      clear hdep hsame hi hlate hfr hkeep
      exact .inl ⟨wanted_none rfl, showsO_pure hsn rfl (.pointer (some ⟨r, 0, none⟩)) (by simp only [execOp, Act.eval]; go_simp) rfl⟩
    | 2, hi =>
      cases (show some _ = some o from hi)
      have e25 : (f.tmps.getD 25 undef) = .pointer (some ⟨r, 0, none⟩) := depO (V := (VTh3 r most bm g n c i G1 sf k ci)) hdep 1 25 (by kernel_rfl) (by kernel_rfl)
      clear hdep hsame hi hlate hfr hkeep
      exact .inl ⟨wanted_none rfl, showsO_pure hsn rfl (.pointer (some ⟨r, 1, none⟩)) (by simp only [execOp, Act.eval]; go_simp) rfl⟩
    | 3, hi =>
      cases (show some _ = some o from hi)
      have e26 : (f.tmps.getD 26 undef) = .pointer (some ⟨r, 1, none⟩) := depO (V := (VTh3 r most bm g n c i G1 sf k ci)) hdep 2 26 (by kernel_rfl) (by kernel_rfl)
      clear hdep hsame hi hlate hfr hkeep
      have c27 := er_cellAt ((hb6.block _ (Array.getElem?_eq_some_iff.1 XR.out).1).trans XR.out) (1) _ rfl
      exact .inl ⟨wanted_none rfl, showsO_pure hsn rfl (.map (some bm)) (by simp only [execOp, Act.eval]; go_simp) rfl⟩
    | 4, hi =>
      cases (show some _ = some o from hi)
      have e4 : f.tmps.getD 4 undef = .pointer (some ⟨G1, 0, none⟩) := hsame.slot 4 (fun i o h => invB2_not 4 (by kernel_rfl) h)
      clear hdep hsame hi hlate hfr hkeep
      exact .inl ⟨wanted_none rfl, showsO_row hsn rfl 30 (.tmp 4) rfl G1 e4 (kcT k).toArray ((hb6.block _ (Array.getElem?_eq_some_iff.1 XG1.out).1).trans XG1.out) Tryd.underlying30 rfl szT rfl⟩
    | 5, hi =>
      cases (show some _ = some o from hi)
      have e27 : (f.tmps.getD 27 undef) = .map (some bm) := depO (V := (VTh3 r most bm g n c i G1 sf k ci)) hdep 3 27 (by kernel_rfl) (by kernel_rfl)
      have e28 : (f.tmps.getD 28 undef) = .agg (kcT k).toArray := depO (V := (VTh3 r most bm g n c i G1 sf k ci)) hdep 4 28 (by kernel_rfl) (by kernel_rfl)
      clear hdep hsame hi hlate hfr hkeep
      have hlk := LK.out u hb6
      exact .inl ⟨wanted_none rfl, showsO_pure hsn rfl (.tuple #[.int .i64 ci, .bool true]) (by simp only [execOp, Act.eval]; go_simp) rfl⟩
    | 6, hi =>
      cases (show some _ = some o from hi)
      have e29 : (f.tmps.getD 29 undef) = .tuple #[.int .i64 ci, .bool true] := depO (V := (VTh3 r most bm g n c i G1 sf k ci)) hdep 5 29 (by kernel_rfl) (by kernel_rfl)
      clear hdep hsame hi hlate hfr hkeep
      exact .inl ⟨wanted_none rfl, showsO_move hsn rfl _ rfl e29⟩
    | 7, hi =>
      cases (show some _ = some o from hi)
      have e23 : (f.tmps.getD 23 undef) = .tuple #[.int .i64 ci, .bool true] := depO (V := (VTh3 r most bm g n c i G1 sf k ci)) hdep 6 23 (by kernel_rfl) (by kernel_rfl)
      clear hdep hsame hi hlate hfr hkeep
      exact .inl ⟨wanted_none rfl, showsO_pure hsn rfl (.int .i64 ci) (by simp only [execOp, Act.eval]; go_simp) rfl⟩
    | 8, hi =>
      cases (show some _ = some o from hi)
      have e23 : (f.tmps.getD 23 undef) = .tuple #[.int .i64 ci, .bool true] := depO (V := (VTh3 r most bm g n c i G1 sf k ci)) hdep 6 23 (by kernel_rfl) (by kernel_rfl)
      clear hdep hsame hi hlate hfr hkeep
      exact .inl ⟨wanted_none rfl, showsO_pure hsn rfl (.bool true) (by simp only [execOp, Act.eval]; go_simp) rfl⟩
    | 9, hi =>
      cases (show some _ = some o from hi)
      have e30 : (f.tmps.getD 30 undef) = .int .i64 ci := depO (V := (VTh3 r most bm g n c i G1 sf k ci)) hdep 7 30 (by kernel_rfl) (by kernel_rfl)
      clear hdep hsame hi hlate hfr hkeep
      exact .inl ⟨wanted_none rfl, showsO_assign hsn rfl _ rfl e30⟩
    | 10, hi =>
      cases (show some _ = some o from hi)
      have e31 : (f.tmps.getD 31 undef) = .bool true := depO (V := (VTh3 r most bm g n c i G1 sf k ci)) hdep 8 31 (by kernel_rfl) (by kernel_rfl)
      clear hdep hsame hi hlate hfr hkeep
      exact .inl ⟨wanted_none rfl, showsO_assign hsn rfl _ rfl e31⟩
    | n + 11, hi => exact absurd hi (by simp)
  intro fr u0 own hsame hsn hall
  have q24 : fr.tmps.getD 24 undef = .pointer (some ⟨r, 0, none⟩) := finO (V := (VTh3 r most bm g n c i G1 sf k ci)) hall 0 24 rfl
  have q25 : fr.tmps.getD 25 undef = .pointer (some ⟨r, 0, none⟩) := finO (V := (VTh3 r most bm g n c i G1 sf k ci)) hall 1 25 rfl
  have q26 : fr.tmps.getD 26 undef = .pointer (some ⟨r, 1, none⟩) := finO (V := (VTh3 r most bm g n c i G1 sf k ci)) hall 2 26 rfl
  have q27 : fr.tmps.getD 27 undef = .map (some bm) := finO (V := (VTh3 r most bm g n c i G1 sf k ci)) hall 3 27 rfl
  have q28 : fr.tmps.getD 28 undef = .agg (kcT k).toArray := finO (V := (VTh3 r most bm g n c i G1 sf k ci)) hall 4 28 rfl
  have q29 : fr.tmps.getD 29 undef = .tuple #[.int .i64 ci, .bool true] := finO (V := (VTh3 r most bm g n c i G1 sf k ci)) hall 5 29 rfl
  have q23 : fr.tmps.getD 23 undef = .tuple #[.int .i64 ci, .bool true] := finO (V := (VTh3 r most bm g n c i G1 sf k ci)) hall 6 23 rfl
  have q30 : fr.tmps.getD 30 undef = .int .i64 ci := finO (V := (VTh3 r most bm g n c i G1 sf k ci)) hall 7 30 rfl
  have q31 : fr.tmps.getD 31 undef = .bool true := finO (V := (VTh3 r most bm g n c i G1 sf k ci)) hall 8 31 rfl
  have q8 : fr.tmps.getD 8 undef = .int .i64 ci := finO (V := (VTh3 r most bm g n c i G1 sf k ci)) hall 9 8 rfl
  have q9 : fr.tmps.getD 9 undef = .bool true := finO (V := (VTh3 r most bm g n c i G1 sf k ci)) hall 10 9 rfl
  obtain rfl := frame_eq hsame [(24, .pointer (some ⟨r, 0, none⟩)), (25, .pointer (some ⟨r, 0, none⟩)), (26, .pointer (some ⟨r, 1, none⟩)), (27, .map (some bm)), (28, .agg (kcT k).toArray), (29, .tuple #[.int .i64 ci, .bool true]), (23, .tuple #[.int .i64 ci, .bool true]), (30, .int .i64 ci), (31, .bool true), (8, .int .i64 ci), (9, .bool true)] (by kernel_rfl) ⟨q24, q25, q26, q27, q28, q29, q23, q30, q31, q8, q9, trivial⟩
  clear hall hsame q24 q25 q26 q27 q28 q29 q23 q30 q31 q8 q9
  simp only [List.foldl, List.setIfInBounds_toArray, List.set_cons_succ, List.set_cons_zero]
  have hb := hsn.below (B := W.heap.size) (fun _ _ => rfl) (Nat.le_refl _)
  have M1 := Bx.mk (MW.out.below hb); have K1 := Bx.mk (KBW.out.trans (hb.mono KBW.out.size))
  have YG2 := Bx.mk ((hb.block G2 (Array.getElem?_eq_some_iff.1 XG2.out).1).trans XG2.out)
  have YG3 := Bx.mk ((hb.block G3 (Array.getElem?_eq_some_iff.1 XG3.out).1).trans XG3.out)
  have GL := Bx.mk (show g < w.heap.size from (Array.getElem?_eq_some_iff.1 M0.out.row.hb).1)
  have IN := Bx.mk (show i < n by rw [M0.out.nl]; exact IL0.out)
  clear hb hsn MW XR LK LK0
  obtain rfl := HC.out
  go_upto_region 5 with (fail)
  have XR5 := Bx.mk M1.out.hb
  refine wp_region_last (n := 149) (m := 8) VTh5mk (fun _ => none) (VTh5 r bm most g n c i G2 sf x) (by kernel_rfl) (by kernel_rfl) rfl rfl (by kernel_rfl) (fun _ _ => rfl) (fun j i hj _ => by cases hj) ?_ ?_ ?_
  · exact fun oi oj v own w own' w' hij _ h r1 => VTh5_mono r bm most g n c i G2 sf x oi oj v own w own' w' hij h r1
  · intro oi o hltm hi f u own hsame hsn hfr hlate hkeep8 hdep
    have hkeep := hkeep8 _ (.inl rfl)
    have hb6 := hsn.below (B := u0.heap.size) (fun _ _ => rfl) (Nat.le_refl _)
    match oi, hi with
    | 0, hi =>
      cases (show some _ = some o from hi)
      have e0 : f.tmps.getD 0 undef = .pointer (some ⟨r, 0, none⟩) := hsame.slot 0 (fun i o h => invB2_not 0 (by kernel_rfl) h)
      clear hdep hsame hi hlate hfr hkeep
      exact .inl ⟨wanted_none rfl, showsO_move hsn rfl _ rfl e0⟩
    | 1, hi =>
      cases (show some _ = some o from hi)
      have e33 : (f.tmps.getD 33 undef) = .pointer (some ⟨r, 0, none⟩) := depO (V := (VTh5 r bm most g n c i G2 sf x)) hdep 0 33 (by kernel_rfl) (by kernel_rfl)
      clear hdep hsame hi hlate hfr hkeep
      exact .inl ⟨wanted_none rfl, showsO_pure hsn rfl (.pointer (some ⟨r, 0, none⟩)) (by simp only [execOp, Act.eval]; go_simp) rfl⟩
    | 2, hi =>
      cases (show some _ = some o from hi)
      have e34 : (f.tmps.getD 34 undef) = .pointer (some ⟨r, 0, none⟩) := depO (V := (VTh5 r bm most g n c i G2 sf x)) hdep 1 34 (by kernel_rfl) (by kernel_rfl)
      clear hdep hsame hi hlate hfr hkeep
      exact .inl ⟨wanted_none rfl, showsO_pure hsn rfl (.pointer (some ⟨r, 2, none⟩)) (by simp only [execOp, Act.eval]; go_simp) rfl⟩
    | 3, hi =>
      cases (show some _ = some o from hi)
      have e35 : (f.tmps.getD 35 undef) = .pointer (some ⟨r, 2, none⟩) := depO (V := (VTh5 r bm most g n c i G2 sf x)) hdep 2 35 (by kernel_rfl) (by kernel_rfl)
      clear hdep hsame hi hlate hfr hkeep
      have c36 := er_cellAt ((hb6.block _ (Array.getElem?_eq_some_iff.1 XR5.out).1).trans XR5.out) (2) _ rfl
      exact .inl ⟨wanted_none rfl, showsO_pure hsn rfl (.slice (some ⟨g, 0, none⟩) n c) (by simp only [execOp, Act.eval]; go_simp) rfl⟩
    | 4, hi =>
      cases (show some _ = some o from hi)
      have e8 : f.tmps.getD 8 undef = .int .i64 (i : Int) := hsame.slot 8 (fun i o h => invB2_not 8 (by kernel_rfl) h)
      clear hdep hsame hi hlate hfr hkeep
      exact .inl ⟨wanted_none rfl, showsO_move hsn rfl _ rfl e8⟩
    | 5, hi =>
      cases (show some _ = some o from hi)
      have e5 : f.tmps.getD 5 undef = .pointer (some ⟨G2, 0, none⟩) := hsame.slot 5 (fun i o h => invB2_not 5 (by kernel_rfl) h)
      clear hdep hsame hi hlate hfr hkeep
      exact .inl ⟨wanted_none rfl, showsO_row hsn rfl 32 (.tmp 5) rfl G2 e5 (bcells x).toArray ((hb6.block _ (Array.getElem?_eq_some_iff.1 YG2.out).1).trans YG2.out) underHz rfl (hsz HXL.out) rfl⟩
    | 6, hi =>
      cases (show some _ = some o from hi)
      have e36 : (f.tmps.getD 36 undef) = .slice (some ⟨g, 0, none⟩) n c := depO (V := (VTh5 r bm most g n c i G2 sf x)) hdep 3 36 (by kernel_rfl) (by kernel_rfl)
      have e37 : (f.tmps.getD 37 undef) = .int .i64 (i : Int) := depO (V := (VTh5 r bm most g n c i G2 sf x)) hdep 4 37 (by kernel_rfl) (by kernel_rfl)
      clear hdep hsame hi hlate hfr hkeep
      have f2 : ¬ (n : Int) ≤ (i : Int) := by have := IN.out; omega
      have f3 : (i : Int) < (n : Int) := by have := IN.out; omega
      exact .inl ⟨wanted_none rfl, showsO_pure hsn rfl (.pointer (some ⟨g, i * 37, none⟩)) (by simp only [execOp, Act.eval]; go_simp) rfl⟩
    | 7, hi =>
      cases (show some _ = some o from hi)
      have e39 : (f.tmps.getD 39 undef) = .pointer (some ⟨g, i * 37, none⟩) := depO (V := (VTh5 r bm most g n c i G2 sf x)) hdep 6 39 (by kernel_rfl) (by kernel_rfl)
      clear hdep hsame hi hlate hfr hkeep
      exact .inl ⟨wanted_none rfl, showsO_pure hsn rfl (.pointer (some ⟨g, i * 37 + 3, none⟩)) (by simp only [execOp, Act.eval]; go_simp) rfl⟩
    | n + 8, hi => exact absurd hltm (by omega)
  intro o ho fr u1 own hsame hsn hla hall
  cases (show some _ = some o from ho)
  have q33 : fr.tmps.getD 33 undef = .pointer (some ⟨r, 0, none⟩) := finL (V := (VTh5 r bm most g n c i G2 sf x)) hall 0 33 (by decide) rfl
  have q34 : fr.tmps.getD 34 undef = .pointer (some ⟨r, 0, none⟩) := finL (V := (VTh5 r bm most g n c i G2 sf x)) hall 1 34 (by decide) rfl
  have q35 : fr.tmps.getD 35 undef = .pointer (some ⟨r, 2, none⟩) := finL (V := (VTh5 r bm most g n c i G2 sf x)) hall 2 35 (by decide) rfl
  have q36 : fr.tmps.getD 36 undef = .slice (some ⟨g, 0, none⟩) n c := finL (V := (VTh5 r bm most g n c i G2 sf x)) hall 3 36 (by decide) rfl
  have q37 : fr.tmps.getD 37 undef = .int .i64 (i : Int) := finL (V := (VTh5 r bm most g n c i G2 sf x)) hall 4 37 (by decide) rfl
  have q38 : fr.tmps.getD 38 undef = .agg (bcells x).toArray := finL (V := (VTh5 r bm most g n c i G2 sf x)) hall 5 38 (by decide) rfl
  have q39 : fr.tmps.getD 39 undef = .pointer (some ⟨g, i * 37, none⟩) := finL (V := (VTh5 r bm most g n c i G2 sf x)) hall 6 39 (by decide) rfl
  have q40 : fr.tmps.getD 40 undef = .pointer (some ⟨g, i * 37 + 3, none⟩) := finL (V := (VTh5 r bm most g n c i G2 sf x)) hall 7 40 (by decide) rfl
  obtain rfl := frame_eq hsame [(33, .pointer (some ⟨r, 0, none⟩)), (34, .pointer (some ⟨r, 0, none⟩)), (35, .pointer (some ⟨r, 2, none⟩)), (36, .slice (some ⟨g, 0, none⟩) n c), (37, .int .i64 (i : Int)), (38, .agg (bcells x).toArray), (39, .pointer (some ⟨g, i * 37, none⟩)), (40, .pointer (some ⟨g, i * 37 + 3, none⟩))] (by kernel_rfl) ⟨q33, q34, q35, q36, q37, q38, q39, q40, trivial⟩
  clear hall hsame q33 q34 q35 q36 q37 q38 q39 q40
  simp only [List.foldl, List.setIfInBounds_toArray, List.set_cons_succ, List.set_cons_zero]
  have hb := hsn.below (B := u0.heap.size) (fun _ _ => rfl) (Nat.le_refl _)
  clear hla ho
  have hm1 := M1.out.below hb
  have tr := hm1.row.there (o := i * 37 + 3) (m := 32) (by have := IN.out; omega)
  obtain ⟨curV, hrow⟩ := hm1.row.setCells (bcells x) (i * 37 + 3)
  rw [show setList (icells kcT vcT its) (i * 37 + 3) (bcells x) = icells kcT vcT (setV its i x) from icells_setVz hm1.sz IL0.out (show (vcT x).length = 32 by unfold vcT; rw [blen]; exact HXL.out)] at hrow
  have hkv := keep_setCells g (bcells x) (i * 37 + 3) u1
  refine ⟨wanted_none rfl, last_store_mid rfl 32 (.tmp 40) (.tmp 38) rfl g (i * 37 + 3) (bcells x).toArray rfl rfl (show u1.there g (i * 37 + 3) (bcells x).toArray.size by rw [List.size_toArray, blen, HXL.out]; exact tr) (hsz HXL.out) (bone _) ?_⟩
  rw [show (bcells x).toArray.toList = bcells x from rfl]
  have M2 := Bx.mk (hm1.turnG hkv hrow (setV_len _ _ _) (hm1.sz.setVz _ (show (vcT x).length = 32 by unfold vcT; rw [blen]; exact HXL.out)))
  have K2 := Bx.mk ((Keep.of_below (K1.out.trans (hb.mono K1.out.size)) (fun j => j = g)).trans hkv (fun _ _ h => h))
  have YG3b := Bx.mk ((hb.block G3 (Array.getElem?_eq_some_iff.1 YG3.out).1).trans YG3.out)
  have ZG3 := Bx.mk ((hkv.block G3 (Array.getElem?_eq_some_iff.1 YG3b.out).1 (fun e => by have h1 := GL.out; have h2 := HG3.out; have e : G3 = g := e; omega)).trans YG3b.out)
  clear hm1 tr hrow hkv hb hsn XR5
  generalize u1.setCells g (i * 37 + 3) (bcells x) = w0 at M2 K2 ZG3 ⊢
  go_wp2_with fail
  refine (out_anyT base w0 r bm most _ g n c _ [] sf D M2.out i L1.out L2.out L3.out).mono ?_
  rintro e w1 ⟨rfl, cur1, m1, k1⟩
  have M3 := Bx.mk m1; have K3 := Bx.mk (K2.out.trans k1 (fun _ _ h => h))
  have VG3 := Bx.mk ((k1.block G3 (Array.getElem?_eq_some_iff.1 ZG3.out).1 (fun e => by have h1 := GL.out; have h2 := HG3.out; have e : G3 = g := e; omega)).trans ZG3.out)
  clear m1 k1
  go_wp2_with fail
  refine (first_anyT base w1 r bm most _ g n c cur1 [] sf D M3.out i (by rw [outI_len]; exact L1.out) (by rw [outI_len]; exact FB.out)).mono ?_
  rintro e w2 ⟨rfl, cur2, m2, k2⟩
  have M4 := Bx.mk m2; have K4 := Bx.mk (K3.out.trans k2 (fun _ _ h => h))
  have UG3 := Bx.mk ((k2.block G3 (Array.getElem?_eq_some_iff.1 VG3.out).1 (fun e => by have h1 := GL.out; have h2 := HG3.out; have e : G3 = g := e; omega)).trans VG3.out)
  clear m2 k2
  go_wp2_with (first
    | (guard_target =~ wpList _ _ _ (⟨some 47, _, _, _, _, _⟩ :: _) _ _; refine wpList_load_row rfl 30 (.tmp 6) rfl G3 rfl _ _ _ _ UG3.out Tryd.underlying30 rfl szT ?_)
    | (guard_target =~ wpList _ _ _ (⟨none, _, _, _, _, _⟩ :: _) _ _; refine wpList_store_row rfl 30 (.tmp 6) (.tmp 47) rfl G3 (kcT ⟨0, 0, 0⟩).toArray rfl rfl _ _ UG3.out szT rfl (oneT _) ?_))
  have k4 : Keep (fun j => j = G3) w2 (w2.setRow G3 (kcT ⟨0, 0, 0⟩).toArray) := Keep.setRow w2 G3 _
  have KF := K4.out.trans (k4.mono (S' := fun j => j = g ∨ w.heap.size ≤ j) (fun j _ e => .inr (by have e : j = G3 := e; rw [e]; exact HG3.out))) (fun j hj h => by rcases h with h | h; exact h; omega)
  have MF := M4.out.keptAll k4 (fun e => by have h1 := (Array.getElem?_eq_some_iff.1 M0.out.hb).1; have h2 := HG3.out; have e : r = G3 := e; omega) (fun e => by have h1 := M0.out.map.lt; have h2 := HG3.out; have e : bm = G3 := e; omega) (fun e => by have h1 := GL.out; have h2 := HG3.out; have e : g = G3 := e; omega) (fun j hj e => by have h1 := ownsRow_lt M0.out.fre j hj; have h2 := HG3.out; have e : j = G3 := e; omega)
  exact bodyPost_ret (res_cs rfl _ _ G3 _ (kcT ⟨0, 0, 0⟩).toArray _ rfl (setRow_heap _ _ _ _ _ _ UG3.out) rfl Tryd.underlying30 szT) rfl ⟨rfl, B, ⟨H1024.out, bm, _, g, n, c, cur2, sf, D, _, MF, FV.out, HBB.out⟩, KF.mono (fun j _ hj => (HBB.out j).2 (.inr (.inr (.inl hj)))), fun k hk => .inl hk⟩
theorem builtT0 : Tryd.prog.built 82 [] = some zeroT := by kernel_rfl
theorem zeroT_cells : zeroT = (icell kcT vcT ⟨⟨0, 0, 0⟩, zH, 0, 0⟩).toArray := by kernel_rfl
theorem zeroT_list : zeroT.toList = icell kcT vcT ⟨⟨0, 0, 0⟩, zH, 0, 0⟩ := by rw [zeroT_cells]
theorem infoTit : (Tryd.prog.info? 82).map (fun i => (i.zero, i.size, i.bytes)) = some (some (.agg zeroT), 37, 72) := by kernel_rfl
theorem bs_itemT (w : World) : (Instr.buildSlice 74 1 #[(0, .agg zeroT)]).run Tryd.prog w = .ok (.slice (some ⟨w.heap.size, 0, none⟩) 1 1) (w.alloc (.cells zeroT 82)) := by kernel_rfl
theorem run_bs_itemT {o : Oper} {a : Act} (w : World) (x : Operand) (ho : o.op = .buildSlice 74 1 #[(0, x)]) (hx : a.eval x = .agg zeroT) :
    (execOp a.eval o).run Tryd.prog w = .ok (.value (.slice (some ⟨w.heap.size, 0, none⟩) 1 1)) (w.alloc (.cells zeroT 82)) := by
  have hr := bs_itemT w
  unfold execOp
  simp only [ho, List.map_toArray, List.map_cons, List.map_nil, hx, Sem.run_bind, hr, Result.andThen_ok, Sem.run_pure]
theorem zero_oneT : ∀ u ∈ zeroT.toList, u.oneCell' = true := by
  have h : zeroT.all (·.oneCell') = true := by kernel_rfl
  intro u hu
  exact Array.all_eq_true_iff_forall_mem.1 h u (by simpa using hu)
theorem row_someT {w : World} {base : Nat} {e : TypeId} {size n : Nat} {v : Value} {xs : List Value} (h : w.ownsRow base e size v (n + 1) xs) : ∃ g c cur, v = .slice (some ⟨g, 0, none⟩) (n + 1) c ∧ RowG w base e size g (n + 1) c cur xs := by
  rcases id h.2 with ⟨_, h0⟩ | ⟨g, c, cur, rfl, h1, h2, h3, h4, h5, h6⟩
  · exact absurd h0 (by omega)
  · exact ⟨g, c, cur, rfl, h2, h1, h3, h4, h5, h6, h.1⟩
theorem icells_snocT (l : List (CaI TlK (List UInt8))) : icells kcT vcT l ++ zeroT.toList = icells kcT vcT (l ++ [⟨⟨0, 0, 0⟩, zH, 0, 0⟩]) := by
  unfold icells
  rw [List.flatMap_append, zeroT_list]; simp
theorem SzI.snocT {l : List (CaI TlK (List UInt8))} (h : SzI kcT vcT 3 32 l) {x : CaI TlK (List UInt8)} (hx : (kcT x.k).length = 3 ∧ (vcT x.v).length = 32) : SzI kcT vcT 3 32 (l ++ [x]) := fun y hy => by
  rcases List.mem_append.1 hy with h1 | h1
  · exact h y h1
  · rw [List.mem_singleton.1 h1]; exact hx
/-- its map turned -/
theorem CaMT.turnM {base : Nat} {w w' : World} {r bm most : Nat} {its : List (CaI TlK (List UInt8))} {g n c : Nat} {cur : Array Value} {fr : List Nat} {sf : Value} {D D' : DataW Unit} (h : CaMT base w r bm most its g n c cur fr sf D) (k : w.mapTurned w' bm) {q : Nat} (hm : w'.ownsMap Tryd.prog 30 (plainElem Tryd.prog 3) bm q D') : CaMT base w' r bm most its g n c cur fr sf D' := by
  obtain ⟨a1, a2, a3, a4⟩ := h.apart
  have k := mapTurned_keep k
  exact ⟨(k.block r (Array.getElem?_eq_some_iff.1 h.hb).1 (Ne.symm a3)).trans h.hb, h.br, h.bb, h.nl, h.row.kept (k.block g (Array.getElem?_eq_some_iff.1 h.row.hb).1 (Ne.symm a2)), ownsRow_keep' h.fre fun j hj => k.block j (ownsRow_lt h.fre j hj) (a4 j hj).2.2, ownsMap_tight hm, h.sz⟩
theorem CaMT.grow {base : Nat} {w w' : World} {r bm most : Nat} {its its' : List (CaI TlK (List UInt8))} {g n c g2 n2 c2 : Nat} {cur cur2 : Array Value} {fr : List Nat} {sf : Value} {D : DataW Unit} (h : CaMT base w r bm most its g n c cur fr sf D) (k : Keep (fun j => j = r ∨ j = g) w w')
    (hb : w'.heap[r]? = some (.cells #[.int .i64 (most : Int), .map (some bm), .slice (some ⟨g2, 0, none⟩) n2 c2, sf] 76 (0, 0))) (hr : RowG w' base 82 37 g2 n2 c2 cur2 (icells kcT vcT its')) (hl : n2 = its'.length) (hs : SzI kcT vcT 3 32 its') : CaMT base w' r bm most its' g2 n2 c2 cur2 fr sf D := by
  obtain ⟨a1, a2, a3, a4⟩ := h.apart
  obtain ⟨es, clock, hm, hF⟩ := h.map
  refine ⟨hb, h.br, h.bb, hl, hr, ownsRow_keep' h.fre fun j hj => k.block j (ownsRow_lt h.fre j hj) ?_, ⟨es, clock, (k.block bm (Array.getElem?_eq_some_iff.1 hm).1 ?_).trans hm, hF⟩, hs⟩
  · rintro (e | e)
    · exact (a4 j hj).2.1 e
    · exact (a4 j hj).1 e
  · rintro (e | e)
    · exact a3 e
    · exact a2 e
/-- the key is stored -/
def KeyWT (own : Nat → Option Nat) (w : World) (base g n c : Nat) (its : List (CaI TlK (List UInt8))) (i : Nat) (k : TlK) : Prop := own g = some 14 ∧ ∃ cur', RowG w base 82 37 g n c cur' (icells kcT vcT (setKz its i k))
theorem KeyWT.stable {mk own own' : Nat → Option Nat} {w w' : World} {q base g n c : Nat} {its : List (CaI TlK (List UInt8))} {i : Nat} {k : TlK} (h : KeyWT own w base g n c its i k) (r : Rel mk q own w own' w') (hq : q ≠ 14) : KeyWT own' w' base g n c its i k := by
  obtain ⟨h1, cur', h2⟩ := h
  have hg := (Array.getElem?_eq_some_iff.1 h2.hb).1
  exact ⟨(r.owns g hg).trans h1, cur', h2.kept (r.keep g hg (by rw [h1]; intro e; exact hq (Option.some.inj e).symm))⟩
def VTn3 (r most bm g n c i G1 : Nat) (sf : Value) (k : TlK) (ci : Int) (oi : Nat) (v : Value) (own : Nat → Option Nat) (w : World) : Prop :=
  match oi with
  | 0 => v = .pointer (some ⟨r, 0, none⟩)
  | 1 => v = .pointer (some ⟨r, 0, none⟩)
  | 2 => v = .pointer (some ⟨r, 1, none⟩)
  | 3 => v = .map (some bm)
  | 4 => v = .agg (kcT k).toArray
  | 5 => v = .tuple #[.int .i64 ci, .bool false]
  | 6 => v = .tuple #[.int .i64 ci, .bool false]
  | 7 => v = .int .i64 ci
  | 8 => v = .bool false
  | 9 => v = .int .i64 ci
  | 10 => v = .bool false
  | _ => True
def VTn3mk : Nat → Option Nat := fun _ => none
theorem VTn3_mono (r most bm g n c i G1 : Nat) (sf : Value) (k : TlK) (ci : Int) (oi oj : Nat) (v : Value) (own : Nat → Option Nat) (w : World) (own' : Nat → Option Nat) (w' : World) (hij : oi ≠ oj)   (h : VTn3 r most bm g n c 0 G1 sf k ci oj v own w) (r1 : Rel VTn3mk oi own w own' w') : VTn3 r most bm g n c 0 G1 sf k ci oj v own' w' := by
  unfold VTn3 at h ⊢
  split at h
  · exact h
  · exact h
  · exact h
  · exact h
  · exact h
  · exact h
  · exact h
  · exact h
  · exact h
  · exact h
  · exact h
  · trivial

def VTn11 (r bm most g n c L : Nat) (sf : Value) (oi : Nat) (v : Value) (own : Nat → Option Nat) (w : World) : Prop :=
  match oi with
  | 0 => v = .pointer (some ⟨r, 0, none⟩)
  | 1 => v = .pointer (some ⟨r, 0, none⟩)
  | 2 => v = .pointer (some ⟨r, 1, none⟩)
  | 3 => v = .map (some bm)
  | 4 => v = .int .i64 (L : Int)
  | 5 => v = .pointer (some ⟨r, 0, none⟩)
  | 6 => v = .pointer (some ⟨r, 0, none⟩)
  | 7 => v = .pointer (some ⟨r, 0, none⟩)
  | 8 => v = .int .i64 (most : Int)
  | 9 => v = .bool false
  | _ => True
def VTn11mk : Nat → Option Nat := fun _ => none
theorem VTn11_mono (r bm most g n c L : Nat) (sf : Value) (oi oj : Nat) (v : Value) (own : Nat → Option Nat) (w : World) (own' : Nat → Option Nat) (w' : World) (hij : oi ≠ oj)   (h : VTn11 r bm most g n c L sf oj v own w) (r1 : Rel VTn11mk oi own w own' w') : VTn11 r bm most g n c L sf oj v own' w' := by
  unfold VTn11 at h ⊢
  split at h
  · exact h
  · exact h
  · exact h
  · exact h
  · exact h
  · exact h
  · exact h
  · exact h
  · exact h
  · exact h
  · trivial

def VTn21 (base r g2 n2 c2' i G1 G2 : Nat) (its : List (CaI TlK (List UInt8))) (k : TlK) (x : (List UInt8)) (oi : Nat) (v : Value) (own : Nat → Option Nat) (w : World) : Prop :=
  match oi with
  | 0 => v = .pointer (some ⟨r, 0, none⟩)
  | 1 => v = .pointer (some ⟨r, 0, none⟩)
  | 2 => v = .pointer (some ⟨r, 2, none⟩)
  | 3 => v = .slice (some ⟨g2, 0, none⟩) n2 c2'
  | 4 => v = .int .i64 (i : Int)
  | 5 => v = .pointer (some ⟨r, 0, none⟩)
  | 6 => v = .pointer (some ⟨r, 0, none⟩)
  | 7 => v = .pointer (some ⟨r, 2, none⟩)
  | 8 => v = .slice (some ⟨g2, 0, none⟩) n2 c2'
  | 9 => v = .int .i64 (i : Int)
  | 10 => v = .agg (kcT k).toArray
  | 11 => v = .agg (bcells x).toArray
  | 12 => v = .pointer (some ⟨g2, i * 37, none⟩)
  | 13 => v = .pointer (some ⟨g2, i * 37, none⟩)
  | 14 => KeyWT own w base g2 n2 c2' (its ++ [⟨⟨0, 0, 0⟩, zH, 0, 0⟩]) i k
  | 15 => v = .pointer (some ⟨g2, i * 37, none⟩)
  | 16 => v = .pointer (some ⟨g2, i * 37 + 3, none⟩)
  | _ => True
def VTn21mk : Nat → Option Nat := fun _ => none
theorem VTn21_mono (base r g2 n2 c2' i G1 G2 : Nat) (its : List (CaI TlK (List UInt8))) (k : TlK) (x : (List UInt8)) (oi oj : Nat) (v : Value) (own : Nat → Option Nat) (w : World) (own' : Nat → Option Nat) (w' : World) (hij : oi ≠ oj)   (h : VTn21 base r g2 n2 c2' i G1 G2 its k x oj v own w) (r1 : Rel VTn21mk oi own w own' w') : VTn21 base r g2 n2 c2' i G1 G2 its k x oj v own' w' := by
  unfold VTn21 at h ⊢
  split at h
  · exact h
  · exact h
  · exact h
  · exact h
  · exact h
  · exact h
  · exact h
  · exact h
  · exact h
  · exact h
  · exact h
  · exact h
  · exact h
  · exact h
  · exact h.stable r1 hij
  · exact h
  · exact h
  · trivial

def VTn22 (r bm most g2 n2 c2' i G1 : Nat) (sf : Value) (k : TlK) (oi : Nat) (v : Value) (own : Nat → Option Nat) (w : World) : Prop :=
  match oi with
  | 0 => v = .pointer (some ⟨r, 0, none⟩)
  | 1 => v = .pointer (some ⟨r, 0, none⟩)
  | 2 => v = .pointer (some ⟨r, 1, none⟩)
  | 3 => v = .map (some bm)
  | 4 => v = .agg (kcT k).toArray
  | 5 => v = .int .i64 (i : Int)
  | _ => True
def VTn22mk : Nat → Option Nat := fun _ => none
theorem VTn22_mono (r bm most g2 n2 c2' i G1 : Nat) (sf : Value) (k : TlK) (oi oj : Nat) (v : Value) (own : Nat → Option Nat) (w : World) (own' : Nat → Option Nat) (w' : World) (hij : oi ≠ oj)   (h : VTn22 r bm most g2 n2 c2' i G1 sf k oj v own w) (r1 : Rel VTn22mk oi own w own' w') : VTn22 r bm most g2 n2 c2' i G1 sf k oj v own' w' := by
  unfold VTn22 at h ⊢
  split at h
  · exact h
  · exact h
  · exact h
  · exact h
  · exact h
  · exact h
  · trivial

set_option maxHeartbeats 2400000 in
theorem yput_newT (base : Nat) (w : World) (r most : Nat) (es : List (TlK × (List UInt8))) (B : Nat → Prop) (hbase : base ≤ w.heap.size) (h : CaYT base w r most es B) (k : TlK) (hk : kwT k) (x : (List UInt8)) (hxl : x.length = 32) (hx : k ∉ es.map (·.1)) (hlt : es.length < most) :
    Calls Tryd.prog 9 #[.pointer (some ⟨r, 0, none⟩), .agg (kcT k).toArray, .agg (vcT x).toArray] w fun e w' => e = .returned (.tuple #[.agg (kcT ⟨0, 0, 0⟩).toArray, .bool false]) ∧ CaUT base w w' r most ((k, x) :: es) B := by
  obtain ⟨h0, bm, its, g, n, c, cur, sf, D, o, m, v, hB⟩ := h
  have hh : Maps.has D (klT k) = false := by
    cases e : Maps.has D (klT k) with
    | false => rfl
    | true => exact absurd ((v.has k hk).1 e) hx
  have hat0 : D.atKey (klT k) (.lit (.int .i64 0)) = .lit (.int .i64 0) := atKey_miss hh
  obtain ⟨ci, hci⟩ : ∃ ci : Int, ci = 0 := ⟨_, rfl⟩
  rw [show (DataW.lit (Lit.int .i64 0) : DataW Unit) = .lit (.int .i64 0) from rfl] at hat0
  have hat0 : D.atKey (klT k) (.lit (.int .i64 0)) = .lit (.int .i64 ci) := by rw [hci]; exact hat0
  have LK0 : Bx (∀ u, Below w.heap.size w u → (Instr.lookup 73 (.map (some bm)) (.agg (kcT k).toArray) true).run Tryd.prog u = .ok (.tuple #[.int .i64 ci, .bool false]) u) := ⟨fun u hu => by
    have h1 := look_z (ownsMap_belowz m.map hu) lawT Tryd.underlying73 Tryd.underlying3 zeroET (keyT hk) hat0
    rw [hh] at h1
    exact h1⟩
  have HKEY := Bx.mk (keyT hk); have HKW := Bx.mk hk; have HX := Bx.mk hx; have HLT := Bx.mk hlt; have H1024 := Bx.mk h0; have HC := Bx.mk hci; have M0 := Bx.mk m; have HBB := Bx.mk hB; have HV := Bx.mk v; have HKK := Bx.mk hk.1; have HBS := Bx.mk hbase; have HSZ := Bx.mk v.size
  have HKL := Bx.mk hk.1

  have HXL := Bx.mk hxl
  obtain ⟨L, hL⟩ : ∃ L, L = es.length := ⟨_, rfl⟩
  rw [← hL] at HSZ
  have LNE := Bx.mk (show L < most by rw [hL]; exact hlt)
  clear v hB hk h0 hat0 hh hci m hx hlt hL hbase hxl
  have kbw := (er_al ((er_al ((er_al (Below.refl w.heap.size w) (.cells (kcT k).toArray 30))) (.cells (bcells x).toArray 32))) (.cells (kcT ⟨0, 0, 0⟩).toArray 30))
  have xG1 := ((er_al (Below.refl ((w.alloc (.cells (kcT k).toArray 30)).alloc (.cells (bcells x).toArray 32)).heap.size ((w.alloc (.cells (kcT k).toArray 30)).alloc (.cells (bcells x).toArray 32))) (.cells (kcT ⟨0, 0, 0⟩).toArray 30)).block _ (Array.getElem?_eq_some_iff.1 (((er_al (Below.refl (w.alloc (.cells (kcT k).toArray 30)).heap.size (w.alloc (.cells (kcT k).toArray 30))) (.cells (bcells x).toArray 32)).block _ (Array.getElem?_eq_some_iff.1 (heap_alloc_new w (.cells (kcT k).toArray 30))).1).trans (heap_alloc_new w (.cells (kcT k).toArray 30)))).1).trans (((er_al (Below.refl (w.alloc (.cells (kcT k).toArray 30)).heap.size (w.alloc (.cells (kcT k).toArray 30))) (.cells (bcells x).toArray 32)).block _ (Array.getElem?_eq_some_iff.1 (heap_alloc_new w (.cells (kcT k).toArray 30))).1).trans (heap_alloc_new w (.cells (kcT k).toArray 30)))
  have xG2 := ((er_al (Below.refl ((w.alloc (.cells (kcT k).toArray 30)).alloc (.cells (bcells x).toArray 32)).heap.size ((w.alloc (.cells (kcT k).toArray 30)).alloc (.cells (bcells x).toArray 32))) (.cells (kcT ⟨0, 0, 0⟩).toArray 30)).block _ (Array.getElem?_eq_some_iff.1 (heap_alloc_new (w.alloc (.cells (kcT k).toArray 30)) (.cells (bcells x).toArray 32))).1).trans (heap_alloc_new (w.alloc (.cells (kcT k).toArray 30)) (.cells (bcells x).toArray 32))
  rw [show (w.alloc (.cells (kcT k).toArray 30)).heap.size = w.heap.size + 1 by simp] at xG2
  have xG3 := heap_alloc_new ((w.alloc (.cells (kcT k).toArray 30)).alloc (.cells (bcells x).toArray 32)) (.cells (kcT ⟨0, 0, 0⟩).toArray 30)
  rw [show ((w.alloc (.cells (kcT k).toArray 30)).alloc (.cells (bcells x).toArray 32)).heap.size = w.heap.size + 2 by simp] at xG3
  go_enter Tryd.func9, Tryd.ntmps9
  go_upto_region 1 with (fail)
  change Code.wp _ _ _ _ (((w.alloc (.cells (kcT k).toArray 30)).alloc (.cells (bcells x).toArray 32)).alloc (.cells (kcT ⟨0, 0, 0⟩).toArray 30))
  generalize (((w.alloc (.cells (kcT k).toArray 30)).alloc (.cells (bcells x).toArray 32)).alloc (.cells (kcT ⟨0, 0, 0⟩).toArray 30)) = W at kbw xG1 xG2 xG3 ⊢
  obtain ⟨G3, hG3⟩ : ∃ q, q = w.heap.size + 2 := ⟨_, rfl⟩
  rw [← hG3] at xG3 ⊢
  obtain ⟨G2, hG2⟩ : ∃ q, q = w.heap.size + 1 := ⟨_, rfl⟩
  rw [← hG2] at xG2 ⊢
  obtain ⟨G1, hG1⟩ : ∃ q, q = w.heap.size := ⟨_, rfl⟩
  rw [← hG1] at xG1 ⊢
  have XG1 := Bx.mk xG1; have HG1 := Bx.mk (show w.heap.size ≤ G1 by omega)
  have XG2 := Bx.mk xG2; have HG2 := Bx.mk (show w.heap.size ≤ G2 by omega)
  have XG3 := Bx.mk xG3; have HG3 := Bx.mk (show w.heap.size ≤ G3 by omega)
  have NG1G2 := Bx.mk (show G1 ≠ G2 by omega)
  have NG1G3 := Bx.mk (show G1 ≠ G3 by omega)
  have NG2G3 := Bx.mk (show G2 ≠ G3 by omega)
  have KBW := Bx.mk kbw
  clear kbw xG1 xG2 xG3 hG1 hG2 hG3
  have MW := Bx.mk (M0.out.below KBW.out)
  have c1 := er_cellAt MW.out.hb 1 _ rfl
  have hmn := fun w => run_eql_map_nil (P := Tryd.prog) w 73 30 3 (some bm) Tryd.underlying73
  have LK := Bx.mk (fun u (hu : Below W.heap.size W u) => LK0.out u (KBW.out.trans (hu.mono KBW.out.size)))
  have XR := Bx.mk MW.out.hb
  go_upto_region 3 with (fail)
  clear c1 hmn
  refine wp_region_own8 (n := 149) VTn3mk (fun _ => none) (VTn3 r most bm g n c 0 G1 sf k ci) (by kernel_rfl) (by kernel_rfl) rfl (fun _ _ => rfl) (fun j i hj _ => by cases hj) ?_ ?_ ?_
  · exact fun oi oj v own w own' w' hij _ h r1 => VTn3_mono r most bm g n c 0 G1 sf k ci oi oj v own w own' w' hij h r1
  · intro oi o hi f u own hsame hsn hfr hlate hkeep8 hdep
    have hkeep := hkeep8 _ (.inl rfl)
    have hb6 := hsn.below (B := W.heap.size) (fun _ _ => rfl) (Nat.le_refl _)
    match oi, hi with
    | 0, hi =>
      cases (show some _ = some o from hi)
      have e0 : f.tmps.getD 0 undef = .pointer (some ⟨r, 0, none⟩) := hsame.slot 0 (fun i o h => invB2_not 0 (by kernel_rfl) h)
      clear hdep hsame hi hlate hfr hkeep
      exact .inl ⟨wanted_none rfl, showsO_move hsn rfl _ rfl e0⟩
    | 1, hi =>
      cases (show some _ = some o from hi)
      have e24 : (f.tmps.getD 24 undef) = .pointer (some ⟨r, 0, none⟩) := depO (V := (VTn3 r most bm g n c 0 G1 sf k ci)) hdep 0 24 (by kernel_rfl) (by kernel_rfl)
      clear hdep hsame hi hlate hfr hkeep
      exact .inl ⟨wanted_none rfl, showsO_pure hsn rfl (.pointer (some ⟨r, 0, none⟩)) (by simp only [execOp, Act.eval]; go_simp) rfl⟩
    | 2, hi =>
      cases (show some _ = some o from hi)
      have e25 : (f.tmps.getD 25 undef) = .pointer (some ⟨r, 0, none⟩) := depO (V := (VTn3 r most bm g n c 0 G1 sf k ci)) hdep 1 25 (by kernel_rfl) (by kernel_rfl)
      clear hdep hsame hi hlate hfr hkeep
      exact .inl ⟨wanted_none rfl, showsO_pure hsn rfl (.pointer (some ⟨r, 1, none⟩)) (by simp only [execOp, Act.eval]; go_simp) rfl⟩
    | 3, hi =>
      cases (show some _ = some o from hi)
      have e26 : (f.tmps.getD 26 undef) = .pointer (some ⟨r, 1, none⟩) := depO (V := (VTn3 r most bm g n c 0 G1 sf k ci)) hdep 2 26 (by kernel_rfl) (by kernel_rfl)
      clear hdep hsame hi hlate hfr hkeep
      have c27 := er_cellAt ((hb6.block _ (Array.getElem?_eq_some_iff.1 XR.out).1).trans XR.out) (1) _ rfl
      exact .inl ⟨wanted_none rfl, showsO_pure hsn rfl (.map (some bm)) (by simp only [execOp, Act.eval]; go_simp) rfl⟩
    | 4, hi =>
      cases (show some _ = some o from hi)
      have e4 : f.tmps.getD 4 undef = .pointer (some ⟨G1, 0, none⟩) := hsame.slot 4 (fun i o h => invB2_not 4 (by kernel_rfl) h)
      clear hdep hsame hi hlate hfr hkeep
      exact .inl ⟨wanted_none rfl, showsO_row hsn rfl 30 (.tmp 4) rfl G1 e4 (kcT k).toArray ((hb6.block _ (Array.getElem?_eq_some_iff.1 XG1.out).1).trans XG1.out) Tryd.underlying30 rfl szT rfl⟩
    | 5, hi =>
      cases (show some _ = some o from hi)
      have e27 : (f.tmps.getD 27 undef) = .map (some bm) := depO (V := (VTn3 r most bm g n c 0 G1 sf k ci)) hdep 3 27 (by kernel_rfl) (by kernel_rfl)
      have e28 : (f.tmps.getD 28 undef) = .agg (kcT k).toArray := depO (V := (VTn3 r most bm g n c 0 G1 sf k ci)) hdep 4 28 (by kernel_rfl) (by kernel_rfl)
      clear hdep hsame hi hlate hfr hkeep
      have hlk := LK.out u hb6
      exact .inl ⟨wanted_none rfl, showsO_pure hsn rfl (.tuple #[.int .i64 ci, .bool false]) (by simp only [execOp, Act.eval]; go_simp) rfl⟩
    | 6, hi =>
      cases (show some _ = some o from hi)
      have e29 : (f.tmps.getD 29 undef) = .tuple #[.int .i64 ci, .bool false] := depO (V := (VTn3 r most bm g n c 0 G1 sf k ci)) hdep 5 29 (by kernel_rfl) (by kernel_rfl)
      clear hdep hsame hi hlate hfr hkeep
      exact .inl ⟨wanted_none rfl, showsO_move hsn rfl _ rfl e29⟩
    | 7, hi =>
      cases (show some _ = some o from hi)
      have e23 : (f.tmps.getD 23 undef) = .tuple #[.int .i64 ci, .bool false] := depO (V := (VTn3 r most bm g n c 0 G1 sf k ci)) hdep 6 23 (by kernel_rfl) (by kernel_rfl)
      clear hdep hsame hi hlate hfr hkeep
      exact .inl ⟨wanted_none rfl, showsO_pure hsn rfl (.int .i64 ci) (by simp only [execOp, Act.eval]; go_simp) rfl⟩
    | 8, hi =>
      cases (show some _ = some o from hi)
      have e23 : (f.tmps.getD 23 undef) = .tuple #[.int .i64 ci, .bool false] := depO (V := (VTn3 r most bm g n c 0 G1 sf k ci)) hdep 6 23 (by kernel_rfl) (by kernel_rfl)
      clear hdep hsame hi hlate hfr hkeep
      exact .inl ⟨wanted_none rfl, showsO_pure hsn rfl (.bool false) (by simp only [execOp, Act.eval]; go_simp) rfl⟩
    | 9, hi =>
      cases (show some _ = some o from hi)
      have e30 : (f.tmps.getD 30 undef) = .int .i64 ci := depO (V := (VTn3 r most bm g n c 0 G1 sf k ci)) hdep 7 30 (by kernel_rfl) (by kernel_rfl)
      clear hdep hsame hi hlate hfr hkeep
      exact .inl ⟨wanted_none rfl, showsO_assign hsn rfl _ rfl e30⟩
    | 10, hi =>
      cases (show some _ = some o from hi)
      have e31 : (f.tmps.getD 31 undef) = .bool false := depO (V := (VTn3 r most bm g n c 0 G1 sf k ci)) hdep 8 31 (by kernel_rfl) (by kernel_rfl)
      clear hdep hsame hi hlate hfr hkeep
      exact .inl ⟨wanted_none rfl, showsO_assign hsn rfl _ rfl e31⟩
    | n + 11, hi => exact absurd hi (by simp)
  intro fr u0 own hsame hsn hall
  have q24 : fr.tmps.getD 24 undef = .pointer (some ⟨r, 0, none⟩) := finO (V := (VTn3 r most bm g n c 0 G1 sf k ci)) hall 0 24 rfl
  have q25 : fr.tmps.getD 25 undef = .pointer (some ⟨r, 0, none⟩) := finO (V := (VTn3 r most bm g n c 0 G1 sf k ci)) hall 1 25 rfl
  have q26 : fr.tmps.getD 26 undef = .pointer (some ⟨r, 1, none⟩) := finO (V := (VTn3 r most bm g n c 0 G1 sf k ci)) hall 2 26 rfl
  have q27 : fr.tmps.getD 27 undef = .map (some bm) := finO (V := (VTn3 r most bm g n c 0 G1 sf k ci)) hall 3 27 rfl
  have q28 : fr.tmps.getD 28 undef = .agg (kcT k).toArray := finO (V := (VTn3 r most bm g n c 0 G1 sf k ci)) hall 4 28 rfl
  have q29 : fr.tmps.getD 29 undef = .tuple #[.int .i64 ci, .bool false] := finO (V := (VTn3 r most bm g n c 0 G1 sf k ci)) hall 5 29 rfl
  have q23 : fr.tmps.getD 23 undef = .tuple #[.int .i64 ci, .bool false] := finO (V := (VTn3 r most bm g n c 0 G1 sf k ci)) hall 6 23 rfl
  have q30 : fr.tmps.getD 30 undef = .int .i64 ci := finO (V := (VTn3 r most bm g n c 0 G1 sf k ci)) hall 7 30 rfl
  have q31 : fr.tmps.getD 31 undef = .bool false := finO (V := (VTn3 r most bm g n c 0 G1 sf k ci)) hall 8 31 rfl
  have q8 : fr.tmps.getD 8 undef = .int .i64 ci := finO (V := (VTn3 r most bm g n c 0 G1 sf k ci)) hall 9 8 rfl
  have q9 : fr.tmps.getD 9 undef = .bool false := finO (V := (VTn3 r most bm g n c 0 G1 sf k ci)) hall 10 9 rfl
  obtain rfl := frame_eq hsame [(24, .pointer (some ⟨r, 0, none⟩)), (25, .pointer (some ⟨r, 0, none⟩)), (26, .pointer (some ⟨r, 1, none⟩)), (27, .map (some bm)), (28, .agg (kcT k).toArray), (29, .tuple #[.int .i64 ci, .bool false]), (23, .tuple #[.int .i64 ci, .bool false]), (30, .int .i64 ci), (31, .bool false), (8, .int .i64 ci), (9, .bool false)] (by kernel_rfl) ⟨q24, q25, q26, q27, q28, q29, q23, q30, q31, q8, q9, trivial⟩
  clear hall hsame q24 q25 q26 q27 q28 q29 q23 q30 q31 q8 q9
  simp only [List.foldl, List.setIfInBounds_toArray, List.set_cons_succ, List.set_cons_zero]
  have hb := hsn.below (B := W.heap.size) (fun _ _ => rfl) (Nat.le_refl _)
  have M1 := Bx.mk (MW.out.below hb); have K1 := Bx.mk (KBW.out.trans (hb.mono KBW.out.size))
  have YG1 := Bx.mk ((hb.block G1 (Array.getElem?_eq_some_iff.1 XG1.out).1).trans XG1.out)
  have YG2 := Bx.mk ((hb.block G2 (Array.getElem?_eq_some_iff.1 XG2.out).1).trans XG2.out)
  have YG3 := Bx.mk ((hb.block G3 (Array.getElem?_eq_some_iff.1 XG3.out).1).trans XG3.out)
  have GL := Bx.mk (show g < w.heap.size from (Array.getElem?_eq_some_iff.1 M0.out.row.hb).1)
  have RLT := Bx.mk (show r < w.heap.size from (Array.getElem?_eq_some_iff.1 M0.out.hb).1)
  have BML := Bx.mk M0.out.map.lt
  clear hb hsn MW XR LK LK0
  obtain rfl := HC.out
  have c0 := er_cellAt M1.out.hb 0 _ rfl
  have f0 : ¬ (most : Int) = 0 := by have := LNE.out; omega
  have f0b : ((most : Int) == 0) = false := beq_eq_false_iff_ne.2 f0
  have f0c : (most == 0) = false := beq_eq_false_iff_ne.2 (by have := LNE.out; omega)
  have XR0 := Bx.mk M1.out.hb; have HM := Bx.mk M1.out.map
  go_upto_region 11 with (fail)
  clear c0 f0 f0b f0c
  refine wp_region_own8 (n := 149) VTn11mk (fun _ => none) (VTn11 r bm most g n c L sf) (by kernel_rfl) (by kernel_rfl) rfl (fun _ _ => rfl) (fun j i hj _ => by cases hj) ?_ ?_ ?_
  · exact fun oi oj v own w own' w' hij _ h r1 => VTn11_mono r bm most g n c L sf oi oj v own w own' w' hij h r1
  · intro oi o hi f u own hsame hsn hfr hlate hkeep8 hdep
    have hkeep := hkeep8 _ (.inl rfl)
    have hb6 := hsn.below (B := u0.heap.size) (fun _ _ => rfl) (Nat.le_refl _)
    match oi, hi with
    | 0, hi =>
      cases (show some _ = some o from hi)
      have e0 : f.tmps.getD 0 undef = .pointer (some ⟨r, 0, none⟩) := hsame.slot 0 (fun i o h => invB2_not 0 (by kernel_rfl) h)
      clear hdep hsame hi hlate hfr hkeep
      exact .inl ⟨wanted_none rfl, showsO_move hsn rfl _ rfl e0⟩
    | 1, hi =>
      cases (show some _ = some o from hi)
      have e54 : (f.tmps.getD 54 undef) = .pointer (some ⟨r, 0, none⟩) := depO (V := (VTn11 r bm most g n c L sf)) hdep 0 54 (by kernel_rfl) (by kernel_rfl)
      clear hdep hsame hi hlate hfr hkeep
      exact .inl ⟨wanted_none rfl, showsO_pure hsn rfl (.pointer (some ⟨r, 0, none⟩)) (by simp only [execOp, Act.eval]; go_simp) rfl⟩
    | 2, hi =>
      cases (show some _ = some o from hi)
      have e55 : (f.tmps.getD 55 undef) = .pointer (some ⟨r, 0, none⟩) := depO (V := (VTn11 r bm most g n c L sf)) hdep 1 55 (by kernel_rfl) (by kernel_rfl)
      clear hdep hsame hi hlate hfr hkeep
      exact .inl ⟨wanted_none rfl, showsO_pure hsn rfl (.pointer (some ⟨r, 1, none⟩)) (by simp only [execOp, Act.eval]; go_simp) rfl⟩
    | 3, hi =>
      cases (show some _ = some o from hi)
      have e56 : (f.tmps.getD 56 undef) = .pointer (some ⟨r, 1, none⟩) := depO (V := (VTn11 r bm most g n c L sf)) hdep 2 56 (by kernel_rfl) (by kernel_rfl)
      clear hdep hsame hi hlate hfr hkeep
      have c57 := er_cellAt ((hb6.block _ (Array.getElem?_eq_some_iff.1 XR0.out).1).trans XR0.out) (1) _ rfl
      exact .inl ⟨wanted_none rfl, showsO_pure hsn rfl (.map (some bm)) (by simp only [execOp, Act.eval]; go_simp) rfl⟩
    | 4, hi =>
      cases (show some _ = some o from hi)
      have e57 : (f.tmps.getD 57 undef) = .map (some bm) := depO (V := (VTn11 r bm most g n c L sf)) hdep 3 57 (by kernel_rfl) (by kernel_rfl)
      clear hdep hsame hi hlate hfr hkeep
      have hln := World.ownsMap.len (ownsMap_belowz HM.out hb6) Tryd.underlying73
      rw [HSZ.out] at hln
      exact .inl ⟨wanted_none rfl, showsO_pure hsn rfl (.int .i64 (L : Int)) (by simp only [execOp, Act.eval]; go_simp) rfl⟩
    | 5, hi =>
      cases (show some _ = some o from hi)
      have e0 : f.tmps.getD 0 undef = .pointer (some ⟨r, 0, none⟩) := hsame.slot 0 (fun i o h => invB2_not 0 (by kernel_rfl) h)
      clear hdep hsame hi hlate hfr hkeep
      exact .inl ⟨wanted_none rfl, showsO_move hsn rfl _ rfl e0⟩
    | 6, hi =>
      cases (show some _ = some o from hi)
      have e59 : (f.tmps.getD 59 undef) = .pointer (some ⟨r, 0, none⟩) := depO (V := (VTn11 r bm most g n c L sf)) hdep 5 59 (by kernel_rfl) (by kernel_rfl)
      clear hdep hsame hi hlate hfr hkeep
      exact .inl ⟨wanted_none rfl, showsO_pure hsn rfl (.pointer (some ⟨r, 0, none⟩)) (by simp only [execOp, Act.eval]; go_simp) rfl⟩
    | 7, hi =>
      cases (show some _ = some o from hi)
      have e60 : (f.tmps.getD 60 undef) = .pointer (some ⟨r, 0, none⟩) := depO (V := (VTn11 r bm most g n c L sf)) hdep 6 60 (by kernel_rfl) (by kernel_rfl)
      clear hdep hsame hi hlate hfr hkeep
      exact .inl ⟨wanted_none rfl, showsO_pure hsn rfl (.pointer (some ⟨r, 0, none⟩)) (by simp only [execOp, Act.eval]; go_simp) rfl⟩
    | 8, hi =>
      cases (show some _ = some o from hi)
      have e61 : (f.tmps.getD 61 undef) = .pointer (some ⟨r, 0, none⟩) := depO (V := (VTn11 r bm most g n c L sf)) hdep 7 61 (by kernel_rfl) (by kernel_rfl)
      clear hdep hsame hi hlate hfr hkeep
      have c62 := er_cellAt ((hb6.block _ (Array.getElem?_eq_some_iff.1 XR0.out).1).trans XR0.out) (0) _ rfl
      exact .inl ⟨wanted_none rfl, showsO_pure hsn rfl (.int .i64 (most : Int)) (by simp only [execOp, Act.eval]; go_simp) rfl⟩
    | 9, hi =>
      cases (show some _ = some o from hi)
      have e58 : (f.tmps.getD 58 undef) = .int .i64 (L : Int) := depO (V := (VTn11 r bm most g n c L sf)) hdep 4 58 (by kernel_rfl) (by kernel_rfl)
      have e62 : (f.tmps.getD 62 undef) = .int .i64 (most : Int) := depO (V := (VTn11 r bm most g n c L sf)) hdep 8 62 (by kernel_rfl) (by kernel_rfl)
      clear hdep hsame hi hlate hfr hkeep
      exact .inl ⟨wanted_none rfl, showsO_pure hsn rfl (.bool false) (by simp only [execOp, Act.eval]; have := LNE.out; first | (go_simp; done) | (go_simp; omega) | (go_simp; simp; omega)) rfl⟩
    | n + 10, hi => exact absurd hi (by simp)
  intro fr W1 own hsame hsn hall
  have q54 : fr.tmps.getD 54 undef = .pointer (some ⟨r, 0, none⟩) := finO (V := (VTn11 r bm most g n c L sf)) hall 0 54 rfl
  have q55 : fr.tmps.getD 55 undef = .pointer (some ⟨r, 0, none⟩) := finO (V := (VTn11 r bm most g n c L sf)) hall 1 55 rfl
  have q56 : fr.tmps.getD 56 undef = .pointer (some ⟨r, 1, none⟩) := finO (V := (VTn11 r bm most g n c L sf)) hall 2 56 rfl
  have q57 : fr.tmps.getD 57 undef = .map (some bm) := finO (V := (VTn11 r bm most g n c L sf)) hall 3 57 rfl
  have q58 : fr.tmps.getD 58 undef = .int .i64 (L : Int) := finO (V := (VTn11 r bm most g n c L sf)) hall 4 58 rfl
  have q59 : fr.tmps.getD 59 undef = .pointer (some ⟨r, 0, none⟩) := finO (V := (VTn11 r bm most g n c L sf)) hall 5 59 rfl
  have q60 : fr.tmps.getD 60 undef = .pointer (some ⟨r, 0, none⟩) := finO (V := (VTn11 r bm most g n c L sf)) hall 6 60 rfl
  have q61 : fr.tmps.getD 61 undef = .pointer (some ⟨r, 0, none⟩) := finO (V := (VTn11 r bm most g n c L sf)) hall 7 61 rfl
  have q62 : fr.tmps.getD 62 undef = .int .i64 (most : Int) := finO (V := (VTn11 r bm most g n c L sf)) hall 8 62 rfl
  have q63 : fr.tmps.getD 63 undef = .bool false := finO (V := (VTn11 r bm most g n c L sf)) hall 9 63 rfl
  obtain rfl := frame_eq hsame [(54, .pointer (some ⟨r, 0, none⟩)), (55, .pointer (some ⟨r, 0, none⟩)), (56, .pointer (some ⟨r, 1, none⟩)), (57, .map (some bm)), (58, .int .i64 (L : Int)), (59, .pointer (some ⟨r, 0, none⟩)), (60, .pointer (some ⟨r, 0, none⟩)), (61, .pointer (some ⟨r, 0, none⟩)), (62, .int .i64 (most : Int)), (63, .bool false)] (by kernel_rfl) ⟨q54, q55, q56, q57, q58, q59, q60, q61, q62, q63, trivial⟩
  clear hall hsame q54 q55 q56 q57 q58 q59 q60 q61 q62 q63
  simp only [List.foldl, List.setIfInBounds_toArray, List.set_cons_succ, List.set_cons_zero]
  have hb := hsn.below (B := u0.heap.size) (fun _ _ => rfl) (Nat.le_refl _)
  have M2 := Bx.mk (M1.out.below hb); have K2 := Bx.mk (K1.out.trans (hb.mono K1.out.size))
  have ZG1 := Bx.mk ((hb.block G1 (Array.getElem?_eq_some_iff.1 YG1.out).1).trans YG1.out)
  have ZG2 := Bx.mk ((hb.block G2 (Array.getElem?_eq_some_iff.1 YG2.out).1).trans YG2.out)
  have ZG3 := Bx.mk ((hb.block G3 (Array.getElem?_eq_some_iff.1 YG3.out).1).trans YG3.out)
  have BS1 := Bx.mk (Nat.le_trans HBS.out K2.out.size)
  clear hb hsn XR0 HM M1 K1 YG1 XG1 YG2 XG2 YG3 XG3
  obtain ⟨a3, c3, hsf⟩ := own_shapeC M2.out.fre
  have c2 := er_cellAt M2.out.hb 2 _ rfl
  have c3f := er_cellAt M2.out.hb 3 _ rfl
  rw [hsf] at c3f
  have V0 := HV.out.more ⟨⟨0, 0, 0⟩, zH, 0, 0⟩ HLT.out
  obtain ⟨i, hi⟩ : ∃ i, i = its.length := ⟨_, rfl⟩
  rw [← hi] at V0
  have hni : n = i := by rw [hi]; exact M2.out.nl
  have V2 := Bx.mk V0
  have NI := Bx.mk hni
  have c3g : W1.cell? ⟨r, 3, none⟩ = some (.slice a3 0 c3) := c3f
  have RW1 := Bx.mk M2.out.row.own
  have NBD : Bx (n ≤ 1025) := ⟨by rw [M2.out.nl]; have h1 := HV.out.bnd; have h2 := H1024.out; omega⟩
  obtain ⟨i0, hi1, hz0, hz1, hz2⟩ := info_partsz infoTit
  have INF := Bx.mk (And.intro hi1 (And.intro hz0 (And.intro hz1 hz2)))
  clear V0 hi hni hsf c3f hi1 hz0 hz1 hz2
  go_upto_region 20 with (fail)
  clear c2 c3g
  have c2 := er_cellAt M2.out.hb 2 _ rfl
  go_wp2_with (first
    | (guard_target =~ wpList _ _ _ (⟨some 117, _, _, _, _, _⟩ :: _) _ _; refine wpList_build_c (by simp [Region.wanted, yielded]) 82 #[] rfl zeroT (by simp only [List.map_toArray, List.map_nil]; exact builtT0) ?_)
    | (guard_target =~ wpList _ _ _ (⟨some 118, _, _, _, _, _⟩ :: _) _ _; refine wpList_run_c (by simp [Region.wanted, yielded]) (.slice (some ⟨W1.heap.size, 0, none⟩) 1 1) (run_bs_itemT W1 (.tmp 117) rfl rfl) ?_)
    | (at_builtin; refine wpList_append_own_at _ rfl _ _ 74 rfl base 82 i0 (.agg zeroT) 37 72 Tryd.underlying74 INF.out.1 INF.out.2.1 INF.out.2.2.1 INF.out.2.2.2 (by kernel_rfl) (by decide) (.slice (some ⟨g, 0, none⟩) n c) n (icells kcT vcT its) rfl (RW1.out.alloc _) ⟨W1.heap.size, 0, none⟩ 1 1 zeroT.toList rfl (by kernel_rfl) (fun j u hu => by rw [Addr.add_mid, Nat.zero_add]; exact er_cellAt (heap_alloc_new _ _) j u (by simpa using hu)) (zero_oneT) (by have := NBD.out; unfold maxLen; omega) (by have := NBD.out; omega) (by have := BS1.out; simp; omega) ?_; intro sl w2 hown hgrow _ hloc; obtain ⟨g2, c2', cur2, rfl, hR2⟩ := row_someT hown; have kk := (Keep.of_below (er_al (Below.refl W1.heap.size W1) (.cells zeroT 82)) (fun j => j = g)).trans (Keep.of_grown hgrow) (fun j _ h => (Option.some.inj h).symm); have hr6 := (kk.block r (Array.getElem?_eq_some_iff.1 M2.out.hb).1 M2.out.apart.1).trans M2.out.hb; have c26 := er_cellAt hr6 2 _ rfl; have f26 := frozenC hr6 2; have HR6 := Bx.mk hr6; have KK := Bx.mk kk; have HR2 := Bx.mk hR2; have HL := Bx.mk hloc; clear hr6 kk hown hloc hgrow c2 hR2))
  have k7 : Keep (fun j => j = r ∨ j = g) W1 (w2.setCell ⟨r, 2, none⟩ (.slice (some ⟨g2, 0, none⟩) (n + 1) c2')) := (KK.out.mono (fun j _ h => .inr h)).trans ((Keep.setCell w2 ⟨r, 2, none⟩ _).mono (S' := fun j => j = r ∨ j = g) (fun j _ h => .inl h)) (fun _ _ h => h)
  have hr7 : (w2.setCell ⟨r, 2, none⟩ (.slice (some ⟨g2, 0, none⟩) (n + 1) c2')).heap[r]? = some (.cells #[.int .i64 (most : Int), .map (some bm), .slice (some ⟨g2, 0, none⟩) (n + 1) c2', sf] 76 (0, 0)) := by simp [World.setCell, Array.getElem?_modify, HR6.out]
  have hgr : g2 ≠ r := fun e => by
    have h1 := HR2.out.hb
    rw [e, HR6.out] at h1
    injection h1 with h1; injection h1 with _ h1; exact absurd h1 (by decide)
  have hrow7 := HR2.out.kept (w' := w2.setCell ⟨r, 2, none⟩ (.slice (some ⟨g2, 0, none⟩) (n + 1) c2')) (by simp [World.setCell, Array.getElem?_modify, Ne.symm hgr])
  rw [icells_snocT] at hrow7
  have M3 := Bx.mk (M2.out.grow k7 hr7 hrow7 (by rw [List.length_append, ← M2.out.nl]; rfl) (SzI.snocT M2.out.sz (by decide)))
  have K3 := Bx.mk ((Keep.of_below K2.out (CaBzT r bm g sf)).trans k7 (fun j hj h => by rcases h with h | h; exact .inl h; exact .inr (.inr (.inl h))))
  have HGQ : Bx (g2 = g ∨ w.heap.size ≤ g2) := ⟨by
    rcases HL.out with h | h
    · exact .inl (Option.some.inj h)
    · have h1 := K2.out.size
      have h2 := Option.some.inj h
      have h3 : W1.heap.size ≤ g2 := by rw [show g2 = _ from h2]; simp
      exact .inr (by omega)⟩
  have HGG : Bx (g2 = g ∨ W1.heap.size ≤ g2) := ⟨by
    rcases HL.out with h | h
    · exact .inl (Option.some.inj h)
    · have h2 := Option.some.inj h
      exact .inr (by rw [show g2 = _ from h2]; simp)⟩
  have N2G1 := Bx.mk (show G1 ≠ g2 from fun e => by
    have h1 := (Array.getElem?_eq_some_iff.1 ZG1.out).1; have h2 := GL.out; have h3 := HG1.out
    rcases HGG.out with h4 | h4 <;> omega)
  have VG1 := Bx.mk ((k7.block G1 (Array.getElem?_eq_some_iff.1 ZG1.out).1 (fun e => by have h1 := GL.out; have h2 := RLT.out; have h3 := HG1.out; rcases e with e | e <;> omega)).trans ZG1.out)
  have N2G2 := Bx.mk (show G2 ≠ g2 from fun e => by
    have h1 := (Array.getElem?_eq_some_iff.1 ZG2.out).1; have h2 := GL.out; have h3 := HG2.out
    rcases HGG.out with h4 | h4 <;> omega)
  have VG2 := Bx.mk ((k7.block G2 (Array.getElem?_eq_some_iff.1 ZG2.out).1 (fun e => by have h1 := GL.out; have h2 := RLT.out; have h3 := HG2.out; rcases e with e | e <;> omega)).trans ZG2.out)
  have N2G3 := Bx.mk (show G3 ≠ g2 from fun e => by
    have h1 := (Array.getElem?_eq_some_iff.1 ZG3.out).1; have h2 := GL.out; have h3 := HG3.out
    rcases HGG.out with h4 | h4 <;> omega)
  have VG3 := Bx.mk ((k7.block G3 (Array.getElem?_eq_some_iff.1 ZG3.out).1 (fun e => by have h1 := GL.out; have h2 := RLT.out; have h3 := HG3.out; rcases e with e | e <;> omega)).trans ZG3.out)
  clear k7 hr7 hgr hrow7 HR6 KK HR2 HL c26 f26 M2 K2 RW1 HGG ZG1 ZG2 ZG3
  generalize w2.setCell ⟨r, 2, none⟩ (.slice (some ⟨g2, 0, none⟩) (n + 1) c2') = W4 at M3 K3 VG1 VG2 VG3 ⊢
  obtain ⟨n2, hn2⟩ : ∃ n2, n2 = n + 1 := ⟨_, rfl⟩
  rw [← hn2] at M3 ⊢
  rw [show (n : Int) = (i : Int) by rw [NI.out]]
  clear hn2
  have XR := Bx.mk M3.out.hb; have GL2 := Bx.mk (Array.getElem?_eq_some_iff.1 M3.out.row.hb).1; have RL := Bx.mk M3.out.apart.1
  haveI : DecidableEq TlK := fun a b => Classical.propDecidable (a = b)
  obtain ⟨hb0, il, va⟩ := CaV.add (fr := []) (i := i) injT keylitT V2.out x HKW.out HX.out HLT.out
  have VA := Bx.mk va; have IL := Bx.mk il; have FB := Bx.mk hb0; have IN := Bx.mk (show i < n2 by rw [M3.out.nl]; exact il)
  clear va il hb0
  go_upto_region 21 with (fail)
  refine wp_region_last (n := 149) (m := 17) VTn21mk (fun k => if k = g2 then some 14 else none) (VTn21 base r g2 n2 c2' i G1 G2 its k x) (by kernel_rfl) (by kernel_rfl) rfl rfl (by kernel_rfl) (fun k hk => if_neg (by have := GL2.out; omega)) (fun j i hj _ => by cases hj) ?_ ?_ ?_
  · exact fun oi oj v own w own' w' hij _ h r1 => VTn21_mono base r g2 n2 c2' i G1 G2 its k x oi oj v own w own' w' hij h r1
  · intro oi o hltm hi f u own hsame hsn hfr hlate hkeep8 hdep
    have hkeep := hkeep8 _ (.inl rfl)
    have hk6 := hsn.keepOne
    match oi, hi with
    | 0, hi =>
      cases (show some _ = some o from hi)
      have e0 : f.tmps.getD 0 undef = .pointer (some ⟨r, 0, none⟩) := hsame.slot 0 (fun i o h => invB2_not 0 (by kernel_rfl) h)
      clear hdep hsame hi hlate hfr hkeep
      exact .inl ⟨wanted_none rfl, showsO_move hsn rfl _ rfl e0⟩
    | 1, hi =>
      cases (show some _ = some o from hi)
      have e122 : (f.tmps.getD 122 undef) = .pointer (some ⟨r, 0, none⟩) := depO (V := (VTn21 base r g2 n2 c2' i G1 G2 its k x)) hdep 0 122 (by kernel_rfl) (by kernel_rfl)
      clear hdep hsame hi hlate hfr hkeep
      exact .inl ⟨wanted_none rfl, showsO_pure hsn rfl (.pointer (some ⟨r, 0, none⟩)) (by simp only [execOp, Act.eval]; go_simp) rfl⟩
    | 2, hi =>
      cases (show some _ = some o from hi)
      have e123 : (f.tmps.getD 123 undef) = .pointer (some ⟨r, 0, none⟩) := depO (V := (VTn21 base r g2 n2 c2' i G1 G2 its k x)) hdep 1 123 (by kernel_rfl) (by kernel_rfl)
      clear hdep hsame hi hlate hfr hkeep
      exact .inl ⟨wanted_none rfl, showsO_pure hsn rfl (.pointer (some ⟨r, 2, none⟩)) (by simp only [execOp, Act.eval]; go_simp) rfl⟩
    | 3, hi =>
      cases (show some _ = some o from hi)
      have e124 : (f.tmps.getD 124 undef) = .pointer (some ⟨r, 2, none⟩) := depO (V := (VTn21 base r g2 n2 c2' i G1 G2 its k x)) hdep 2 124 (by kernel_rfl) (by kernel_rfl)
      clear hdep hsame hi hlate hfr hkeep
      have c125 := er_cellAt ((hk6.block _ (Array.getElem?_eq_some_iff.1 XR.out).1 RL.out).trans XR.out) 2 _ rfl
      exact .inl ⟨wanted_none rfl, showsO_pure hsn rfl (.slice (some ⟨g2, 0, none⟩) n2 c2') (by simp only [execOp, Act.eval]; go_simp) rfl⟩
    | 4, hi =>
      cases (show some _ = some o from hi)
      have e11 : f.tmps.getD 11 undef = .int .i64 (i : Int) := hsame.slot 11 (fun i o h => invB2_not 11 (by kernel_rfl) h)
      clear hdep hsame hi hlate hfr hkeep
      exact .inl ⟨wanted_none rfl, showsO_move hsn rfl _ rfl e11⟩
    | 5, hi =>
      cases (show some _ = some o from hi)
      have e0 : f.tmps.getD 0 undef = .pointer (some ⟨r, 0, none⟩) := hsame.slot 0 (fun i o h => invB2_not 0 (by kernel_rfl) h)
      clear hdep hsame hi hlate hfr hkeep
      exact .inl ⟨wanted_none rfl, showsO_move hsn rfl _ rfl e0⟩
    | 6, hi =>
      cases (show some _ = some o from hi)
      have e127 : (f.tmps.getD 127 undef) = .pointer (some ⟨r, 0, none⟩) := depO (V := (VTn21 base r g2 n2 c2' i G1 G2 its k x)) hdep 5 127 (by kernel_rfl) (by kernel_rfl)
      clear hdep hsame hi hlate hfr hkeep
      exact .inl ⟨wanted_none rfl, showsO_pure hsn rfl (.pointer (some ⟨r, 0, none⟩)) (by simp only [execOp, Act.eval]; go_simp) rfl⟩
    | 7, hi =>
      cases (show some _ = some o from hi)
      have e128 : (f.tmps.getD 128 undef) = .pointer (some ⟨r, 0, none⟩) := depO (V := (VTn21 base r g2 n2 c2' i G1 G2 its k x)) hdep 6 128 (by kernel_rfl) (by kernel_rfl)
      clear hdep hsame hi hlate hfr hkeep
      exact .inl ⟨wanted_none rfl, showsO_pure hsn rfl (.pointer (some ⟨r, 2, none⟩)) (by simp only [execOp, Act.eval]; go_simp) rfl⟩
    | 8, hi =>
      cases (show some _ = some o from hi)
      have e129 : (f.tmps.getD 129 undef) = .pointer (some ⟨r, 2, none⟩) := depO (V := (VTn21 base r g2 n2 c2' i G1 G2 its k x)) hdep 7 129 (by kernel_rfl) (by kernel_rfl)
      clear hdep hsame hi hlate hfr hkeep
      have c130 := er_cellAt ((hk6.block _ (Array.getElem?_eq_some_iff.1 XR.out).1 RL.out).trans XR.out) 2 _ rfl
      exact .inl ⟨wanted_none rfl, showsO_pure hsn rfl (.slice (some ⟨g2, 0, none⟩) n2 c2') (by simp only [execOp, Act.eval]; go_simp) rfl⟩
    | 9, hi =>
      cases (show some _ = some o from hi)
      have e11 : f.tmps.getD 11 undef = .int .i64 (i : Int) := hsame.slot 11 (fun i o h => invB2_not 11 (by kernel_rfl) h)
      clear hdep hsame hi hlate hfr hkeep
      exact .inl ⟨wanted_none rfl, showsO_move hsn rfl _ rfl e11⟩
    | 10, hi =>
      cases (show some _ = some o from hi)
      have e4 : f.tmps.getD 4 undef = .pointer (some ⟨G1, 0, none⟩) := hsame.slot 4 (fun i o h => invB2_not 4 (by kernel_rfl) h)
      clear hdep hsame hi hlate hfr hkeep
      exact .inl ⟨wanted_none rfl, showsO_row hsn rfl 30 (.tmp 4) rfl G1 e4 (kcT k).toArray ((hk6.block G1 (Array.getElem?_eq_some_iff.1 VG1.out).1 N2G1.out).trans VG1.out) Tryd.underlying30 rfl szT rfl⟩
    | 11, hi =>
      cases (show some _ = some o from hi)
      have e5 : f.tmps.getD 5 undef = .pointer (some ⟨G2, 0, none⟩) := hsame.slot 5 (fun i o h => invB2_not 5 (by kernel_rfl) h)
      clear hdep hsame hi hlate hfr hkeep
      exact .inl ⟨wanted_none rfl, showsO_row hsn rfl 32 (.tmp 5) rfl G2 e5 (bcells x).toArray ((hk6.block G2 (Array.getElem?_eq_some_iff.1 VG2.out).1 N2G2.out).trans VG2.out) underHz rfl (hsz HXL.out) rfl⟩
    | 12, hi =>
      cases (show some _ = some o from hi)
      have e125 : (f.tmps.getD 125 undef) = .slice (some ⟨g2, 0, none⟩) n2 c2' := depO (V := (VTn21 base r g2 n2 c2' i G1 G2 its k x)) hdep 3 125 (by kernel_rfl) (by kernel_rfl)
      have e126 : (f.tmps.getD 126 undef) = .int .i64 (i : Int) := depO (V := (VTn21 base r g2 n2 c2' i G1 G2 its k x)) hdep 4 126 (by kernel_rfl) (by kernel_rfl)
      clear hdep hsame hi hlate hfr hkeep
      have f2 : ¬ (n2 : Int) ≤ (i : Int) := by have := IN.out; omega
      have f3 : (i : Int) < (n2 : Int) := by have := IN.out; omega
      exact .inl ⟨wanted_none rfl, showsO_pure hsn rfl (.pointer (some ⟨g2, i * 37, none⟩)) (by simp only [execOp, Act.eval]; go_simp) rfl⟩
    | 13, hi =>
      cases (show some _ = some o from hi)
      have e134 : (f.tmps.getD 134 undef) = .pointer (some ⟨g2, i * 37, none⟩) := depO (V := (VTn21 base r g2 n2 c2' i G1 G2 its k x)) hdep 12 134 (by kernel_rfl) (by kernel_rfl)
      clear hdep hsame hi hlate hfr hkeep
      exact .inl ⟨wanted_none rfl, showsO_pure hsn rfl (.pointer (some ⟨g2, i * 37, none⟩)) (by simp only [execOp, Act.eval]; go_simp) rfl⟩
    | 14, hi =>
      cases (show some _ = some o from hi)
      have e132 : (f.tmps.getD 132 undef) = .agg (kcT k).toArray := depO (V := (VTn21 base r g2 n2 c2' i G1 G2 its k x)) hdep 10 132 (by kernel_rfl) (by kernel_rfl)
      have e135 : (f.tmps.getD 135 undef) = .pointer (some ⟨g2, i * 37, none⟩) := depO (V := (VTn21 base r g2 n2 c2' i G1 G2 its k x)) hdep 13 135 (by kernel_rfl) (by kernel_rfl)
      clear hdep hsame hi hlate hfr hkeep
      have hg := M3.out.row.kept (hkeep8 14 (.inl rfl) g2 GL2.out (if_pos rfl))
      have hog := (hsn.owns g2 GL2.out).trans (if_pos rfl)
      have tr := hg.there (o := i * 37) (m := 3) (by have := IN.out; omega)
      obtain ⟨curK, hRK⟩ := hg.setCells (kcT k) (i * 37)
      rw [show setList (icells kcT vcT (its ++ [⟨⟨0, 0, 0⟩, zH, 0, 0⟩])) (i * 37) (kcT k) = icells kcT vcT (setKz (its ++ [⟨⟨0, 0, 0⟩, zH, 0, 0⟩]) i k) from icells_setKz M3.out.sz IL.out HKK.out] at hRK
      exact .inl ⟨wanted_none rfl, showsO_store_midC hsn rfl 30 (.tmp 135) (.tmp 132) rfl g2 (i * 37) (kcT k).toArray e135 e132 (show u.there g2 (i * 37) (kcT k).toArray.size by rw [List.size_toArray, HKK.out]; exact tr) szT (oneT k) hog ⟨hog, curK, hRK⟩⟩
    | 15, hi =>
      cases (show some _ = some o from hi)
      have e130 : (f.tmps.getD 130 undef) = .slice (some ⟨g2, 0, none⟩) n2 c2' := depO (V := (VTn21 base r g2 n2 c2' i G1 G2 its k x)) hdep 8 130 (by kernel_rfl) (by kernel_rfl)
      have e131 : (f.tmps.getD 131 undef) = .int .i64 (i : Int) := depO (V := (VTn21 base r g2 n2 c2' i G1 G2 its k x)) hdep 9 131 (by kernel_rfl) (by kernel_rfl)
      clear hdep hsame hi hlate hfr hkeep
      have f2 : ¬ (n2 : Int) ≤ (i : Int) := by have := IN.out; omega
      have f3 : (i : Int) < (n2 : Int) := by have := IN.out; omega
      exact .inl ⟨wanted_none rfl, showsO_pure hsn rfl (.pointer (some ⟨g2, i * 37, none⟩)) (by simp only [execOp, Act.eval]; go_simp) rfl⟩
    | 16, hi =>
      cases (show some _ = some o from hi)
      have e136 : (f.tmps.getD 136 undef) = .pointer (some ⟨g2, i * 37, none⟩) := depO (V := (VTn21 base r g2 n2 c2' i G1 G2 its k x)) hdep 15 136 (by kernel_rfl) (by kernel_rfl)
      clear hdep hsame hi hlate hfr hkeep
      exact .inl ⟨wanted_none rfl, showsO_pure hsn rfl (.pointer (some ⟨g2, i * 37 + 3, none⟩)) (by simp only [execOp, Act.eval]; go_simp) rfl⟩
    | n + 17, hi => exact absurd hltm (by omega)
  intro o ho fr u1 own hsame hsn hla hall
  cases (show some _ = some o from ho)
  have q122 : fr.tmps.getD 122 undef = .pointer (some ⟨r, 0, none⟩) := finL (V := (VTn21 base r g2 n2 c2' i G1 G2 its k x)) hall 0 122 (by decide) rfl
  have q123 : fr.tmps.getD 123 undef = .pointer (some ⟨r, 0, none⟩) := finL (V := (VTn21 base r g2 n2 c2' i G1 G2 its k x)) hall 1 123 (by decide) rfl
  have q124 : fr.tmps.getD 124 undef = .pointer (some ⟨r, 2, none⟩) := finL (V := (VTn21 base r g2 n2 c2' i G1 G2 its k x)) hall 2 124 (by decide) rfl
  have q125 : fr.tmps.getD 125 undef = .slice (some ⟨g2, 0, none⟩) n2 c2' := finL (V := (VTn21 base r g2 n2 c2' i G1 G2 its k x)) hall 3 125 (by decide) rfl
  have q126 : fr.tmps.getD 126 undef = .int .i64 (i : Int) := finL (V := (VTn21 base r g2 n2 c2' i G1 G2 its k x)) hall 4 126 (by decide) rfl
  have q127 : fr.tmps.getD 127 undef = .pointer (some ⟨r, 0, none⟩) := finL (V := (VTn21 base r g2 n2 c2' i G1 G2 its k x)) hall 5 127 (by decide) rfl
  have q128 : fr.tmps.getD 128 undef = .pointer (some ⟨r, 0, none⟩) := finL (V := (VTn21 base r g2 n2 c2' i G1 G2 its k x)) hall 6 128 (by decide) rfl
  have q129 : fr.tmps.getD 129 undef = .pointer (some ⟨r, 2, none⟩) := finL (V := (VTn21 base r g2 n2 c2' i G1 G2 its k x)) hall 7 129 (by decide) rfl
  have q130 : fr.tmps.getD 130 undef = .slice (some ⟨g2, 0, none⟩) n2 c2' := finL (V := (VTn21 base r g2 n2 c2' i G1 G2 its k x)) hall 8 130 (by decide) rfl
  have q131 : fr.tmps.getD 131 undef = .int .i64 (i : Int) := finL (V := (VTn21 base r g2 n2 c2' i G1 G2 its k x)) hall 9 131 (by decide) rfl
  have q132 : fr.tmps.getD 132 undef = .agg (kcT k).toArray := finL (V := (VTn21 base r g2 n2 c2' i G1 G2 its k x)) hall 10 132 (by decide) rfl
  have q133 : fr.tmps.getD 133 undef = .agg (bcells x).toArray := finL (V := (VTn21 base r g2 n2 c2' i G1 G2 its k x)) hall 11 133 (by decide) rfl
  have q134 : fr.tmps.getD 134 undef = .pointer (some ⟨g2, i * 37, none⟩) := finL (V := (VTn21 base r g2 n2 c2' i G1 G2 its k x)) hall 12 134 (by decide) rfl
  have q135 : fr.tmps.getD 135 undef = .pointer (some ⟨g2, i * 37, none⟩) := finL (V := (VTn21 base r g2 n2 c2' i G1 G2 its k x)) hall 13 135 (by decide) rfl
  obtain ⟨oK, curK, RK⟩ := finLN (V := (VTn21 base r g2 n2 c2' i G1 G2 its k x)) hall 14 (by decide) rfl
  have q136 : fr.tmps.getD 136 undef = .pointer (some ⟨g2, i * 37, none⟩) := finL (V := (VTn21 base r g2 n2 c2' i G1 G2 its k x)) hall 15 136 (by decide) rfl
  have q137 : fr.tmps.getD 137 undef = .pointer (some ⟨g2, i * 37 + 3, none⟩) := finL (V := (VTn21 base r g2 n2 c2' i G1 G2 its k x)) hall 16 137 (by decide) rfl
  obtain rfl := frame_eq hsame [(122, .pointer (some ⟨r, 0, none⟩)), (123, .pointer (some ⟨r, 0, none⟩)), (124, .pointer (some ⟨r, 2, none⟩)), (125, .slice (some ⟨g2, 0, none⟩) n2 c2'), (126, .int .i64 (i : Int)), (127, .pointer (some ⟨r, 0, none⟩)), (128, .pointer (some ⟨r, 0, none⟩)), (129, .pointer (some ⟨r, 2, none⟩)), (130, .slice (some ⟨g2, 0, none⟩) n2 c2'), (131, .int .i64 (i : Int)), (132, .agg (kcT k).toArray), (133, .agg (bcells x).toArray), (134, .pointer (some ⟨g2, i * 37, none⟩)), (135, .pointer (some ⟨g2, i * 37, none⟩)), (136, .pointer (some ⟨g2, i * 37, none⟩)), (137, .pointer (some ⟨g2, i * 37 + 3, none⟩))] (by kernel_rfl) ⟨q122, q123, q124, q125, q126, q127, q128, q129, q130, q131, q132, q133, q134, q135, q136, q137, trivial⟩
  clear hall hsame q122 q123 q124 q125 q126 q127 q128 q129 q130 q131 q132 q133 q134 q135 q136 q137
  simp only [List.foldl, List.setIfInBounds_toArray, List.set_cons_succ, List.set_cons_zero]
  have hk6 := hsn.keepOne
  have MK := M3.out.turnG hk6 RK (setK_lenz _ _ _) (SzI.setKz M3.out.sz _ HKK.out)
  clear hla ho
  have hm1 := MK
  have tr := hm1.row.there (o := i * 37 + 3) (m := 32) (by have := IN.out; omega)
  obtain ⟨curV, hrow⟩ := hm1.row.setCells (bcells x) (i * 37 + 3)
  rw [show setList (icells kcT vcT (setKz (its ++ [⟨⟨0, 0, 0⟩, zH, 0, 0⟩]) i k)) (i * 37 + 3) (bcells x) = icells kcT vcT (setV (setKz (its ++ [⟨⟨0, 0, 0⟩, zH, 0, 0⟩]) i k) i x) from icells_setVz hm1.sz (by rw [setK_lenz]; exact IL.out) (show (vcT x).length = 32 by unfold vcT; rw [blen]; exact HXL.out)] at hrow
  have hkv := keep_setCells g2 (bcells x) (i * 37 + 3) u1
  refine ⟨wanted_none rfl, last_store_mid rfl 32 (.tmp 137) (.tmp 133) rfl g2 (i * 37 + 3) (bcells x).toArray rfl rfl (show u1.there g2 (i * 37 + 3) (bcells x).toArray.size by rw [List.size_toArray, blen, HXL.out]; exact tr) (hsz HXL.out) (bone _) ?_⟩
  rw [show (bcells x).toArray.toList = bcells x from rfl]
  have M4 := Bx.mk (hm1.turnG hkv hrow (setV_len _ _ _) (hm1.sz.setVz _ (show (vcT x).length = 32 by unfold vcT; rw [blen]; exact HXL.out)))
  have hkk := hk6.trans hkv (fun _ _ h => h)
  have K4 := Bx.mk (K3.out.trans hkk (fun j hj h => by rcases HGQ.out with e | e; exact .inr (.inr (.inl ((show j = g2 from h).trans e))); have h : j = g2 := h; omega))
  have UG1 := Bx.mk ((hkk.block G1 (Array.getElem?_eq_some_iff.1 VG1.out).1 N2G1.out).trans VG1.out)
  have UG2 := Bx.mk ((hkk.block G2 (Array.getElem?_eq_some_iff.1 VG2.out).1 N2G2.out).trans VG2.out)
  have UG3 := Bx.mk ((hkk.block G3 (Array.getElem?_eq_some_iff.1 VG3.out).1 N2G3.out).trans VG3.out)
  rw [setK_setVz] at M4
  clear hm1 hrow hkv hkk hk6 hsn MK RK oK XR M3 K3 tr VG1 VG2 VG3
  generalize u1.setCells g2 (i * 37 + 3) (bcells x) = w5 at M4 K4 UG1 UG2 UG3 ⊢
  go_upto_region 22 with (fail)
  have XR := Bx.mk M4.out.hb
  refine wp_region_last (n := 149) (m := 6) VTn22mk (fun _ => none) (VTn22 r bm most g2 n2 c2' i G1 sf k) (by kernel_rfl) (by kernel_rfl) rfl rfl (by kernel_rfl) (fun _ _ => rfl) (fun j i hj _ => by cases hj) ?_ ?_ ?_
  · exact fun oi oj v own w own' w' hij _ h r1 => VTn22_mono r bm most g2 n2 c2' i G1 sf k oi oj v own w own' w' hij h r1
  · intro oi o hltm hi f u own hsame hsn hfr hlate hkeep8 hdep
    have hkeep := hkeep8 _ (.inl rfl)
    have hb6 := hsn.below (B := w5.heap.size) (fun _ _ => rfl) (Nat.le_refl _)
    match oi, hi with
    | 0, hi =>
      cases (show some _ = some o from hi)
      have e0 : f.tmps.getD 0 undef = .pointer (some ⟨r, 0, none⟩) := hsame.slot 0 (fun i o h => invB2_not 0 (by kernel_rfl) h)
      clear hdep hsame hi hlate hfr hkeep
      exact .inl ⟨wanted_none rfl, showsO_move hsn rfl _ rfl e0⟩
    | 1, hi =>
      cases (show some _ = some o from hi)
      have e138 : (f.tmps.getD 138 undef) = .pointer (some ⟨r, 0, none⟩) := depO (V := (VTn22 r bm most g2 n2 c2' i G1 sf k)) hdep 0 138 (by kernel_rfl) (by kernel_rfl)
      clear hdep hsame hi hlate hfr hkeep
      exact .inl ⟨wanted_none rfl, showsO_pure hsn rfl (.pointer (some ⟨r, 0, none⟩)) (by simp only [execOp, Act.eval]; go_simp) rfl⟩
    | 2, hi =>
      cases (show some _ = some o from hi)
      have e139 : (f.tmps.getD 139 undef) = .pointer (some ⟨r, 0, none⟩) := depO (V := (VTn22 r bm most g2 n2 c2' i G1 sf k)) hdep 1 139 (by kernel_rfl) (by kernel_rfl)
      clear hdep hsame hi hlate hfr hkeep
      exact .inl ⟨wanted_none rfl, showsO_pure hsn rfl (.pointer (some ⟨r, 1, none⟩)) (by simp only [execOp, Act.eval]; go_simp) rfl⟩
    | 3, hi =>
      cases (show some _ = some o from hi)
      have e140 : (f.tmps.getD 140 undef) = .pointer (some ⟨r, 1, none⟩) := depO (V := (VTn22 r bm most g2 n2 c2' i G1 sf k)) hdep 2 140 (by kernel_rfl) (by kernel_rfl)
      clear hdep hsame hi hlate hfr hkeep
      have c141 := er_cellAt ((hb6.block _ (Array.getElem?_eq_some_iff.1 XR.out).1).trans XR.out) (1) _ rfl
      exact .inl ⟨wanted_none rfl, showsO_pure hsn rfl (.map (some bm)) (by simp only [execOp, Act.eval]; go_simp) rfl⟩
    | 4, hi =>
      cases (show some _ = some o from hi)
      have e4 : f.tmps.getD 4 undef = .pointer (some ⟨G1, 0, none⟩) := hsame.slot 4 (fun i o h => invB2_not 4 (by kernel_rfl) h)
      clear hdep hsame hi hlate hfr hkeep
      exact .inl ⟨wanted_none rfl, showsO_row hsn rfl 30 (.tmp 4) rfl G1 e4 (kcT k).toArray ((hb6.block _ (Array.getElem?_eq_some_iff.1 UG1.out).1).trans UG1.out) Tryd.underlying30 rfl szT rfl⟩
    | 5, hi =>
      cases (show some _ = some o from hi)
      have e11 : f.tmps.getD 11 undef = .int .i64 (i : Int) := hsame.slot 11 (fun i o h => invB2_not 11 (by kernel_rfl) h)
      clear hdep hsame hi hlate hfr hkeep
      exact .inl ⟨wanted_none rfl, showsO_move hsn rfl _ rfl e11⟩
    | n + 6, hi => exact absurd hltm (by omega)
  intro o ho fr u6 own hsame hsn hla hall
  cases (show some _ = some o from ho)
  have q138 : fr.tmps.getD 138 undef = .pointer (some ⟨r, 0, none⟩) := finL (V := (VTn22 r bm most g2 n2 c2' i G1 sf k)) hall 0 138 (by decide) rfl
  have q139 : fr.tmps.getD 139 undef = .pointer (some ⟨r, 0, none⟩) := finL (V := (VTn22 r bm most g2 n2 c2' i G1 sf k)) hall 1 139 (by decide) rfl
  have q140 : fr.tmps.getD 140 undef = .pointer (some ⟨r, 1, none⟩) := finL (V := (VTn22 r bm most g2 n2 c2' i G1 sf k)) hall 2 140 (by decide) rfl
  have q141 : fr.tmps.getD 141 undef = .map (some bm) := finL (V := (VTn22 r bm most g2 n2 c2' i G1 sf k)) hall 3 141 (by decide) rfl
  have q142 : fr.tmps.getD 142 undef = .agg (kcT k).toArray := finL (V := (VTn22 r bm most g2 n2 c2' i G1 sf k)) hall 4 142 (by decide) rfl
  have q143 : fr.tmps.getD 143 undef = .int .i64 (i : Int) := finL (V := (VTn22 r bm most g2 n2 c2' i G1 sf k)) hall 5 143 (by decide) rfl
  obtain rfl := frame_eq hsame [(138, .pointer (some ⟨r, 0, none⟩)), (139, .pointer (some ⟨r, 0, none⟩)), (140, .pointer (some ⟨r, 1, none⟩)), (141, .map (some bm)), (142, .agg (kcT k).toArray), (143, .int .i64 (i : Int))] (by kernel_rfl) ⟨q138, q139, q140, q141, q142, q143, trivial⟩
  clear hall hsame q138 q139 q140 q141 q142 q143
  simp only [List.foldl, List.setIfInBounds_toArray, List.set_cons_succ, List.set_cons_zero]
  have hb := hsn.below (B := w5.heap.size) (fun _ _ => rfl) (Nat.le_refl _)
  have NM : Bx (Maps.size D < maxLen) := ⟨by have h1 := HSZ.out; have h2 := LNE.out; have h3 := H1024.out; unfold maxLen; omega⟩
  have IW := Bx.mk (show (Lit.int .i64 (i : Int)).wf = true by have h1 := NI.out; have h2 := NBD.out; simp [Lit.wf, IntKind.min, IntKind.max, IntKind.signed, IntKind.bits]; omega)
  have hm5 := M4.out.below hb
  obtain ⟨w7, hrun, hm7, ht7⟩ := hm5.map.store lawT Tryd.underlying73 NM.out HKEY.out (plainElem_int Tryd.underlying3 IW.out)
  have M5 := Bx.mk (hm5.turnM ht7 hm7)
  have k57 := (Keep.of_below hb (CaBzT r bm g sf)).trans (mapTurned_keep ht7) (fun j hj h => .inr (.inl h))
  have K5 := Bx.mk (K4.out.trans k57 (fun _ _ h => h))
  have TG3 := Bx.mk (((mapTurned_keep ht7).block G3 (Nat.lt_of_lt_of_le (Array.getElem?_eq_some_iff.1 UG3.out).1 hb.size) (fun e => by have h1 := BML.out; have h2 := HG3.out; have e : G3 = bm := e; omega)).trans ((hb.block G3 (Array.getElem?_eq_some_iff.1 UG3.out).1).trans UG3.out))
  refine ⟨wanted_none rfl, last_update (.tmp 141) (.tmp 142) (.tmp 143) 73 rfl rfl (.map (some bm)) (.agg (kcT k).toArray) (.int .i64 (i : Int)) rfl rfl rfl hrun ?_⟩
  clear hb hm5 hrun hm7 ht7 k57 hsn hla ho XR M4 K4
  go_wp2_with fail
  refine (first_anyT base w7 r bm most _ g2 n2 c2' _ [] sf _ M5.out i (by rw [setKV_len]; exact IL.out) (by rw [setKV_len]; exact FB.out)).mono ?_
  rintro e w2 ⟨rfl, cur5, m8, k8⟩
  have M8 := Bx.mk m8; have K8 := Bx.mk (K5.out.trans k8 (fun j hj h => by rcases HGQ.out with e | e; exact .inr (.inr (.inl ((show j = g2 from h).trans e))); have h : j = g2 := h; omega))
  have UZ3 := Bx.mk ((k8.block G3 (Array.getElem?_eq_some_iff.1 TG3.out).1 N2G3.out).trans TG3.out)
  clear m8 k8 M5 K5
  go_wp2_with (first
    | (guard_target =~ wpList _ _ _ (⟨some 147, _, _, _, _, _⟩ :: _) _ _; refine wpList_load_row rfl 30 (.tmp 6) rfl G3 rfl _ _ _ _ UZ3.out Tryd.underlying30 rfl szT ?_)
    | (guard_target =~ wpList _ _ _ (⟨none, _, _, _, _, _⟩ :: _) _ _; refine wpList_store_row rfl 30 (.tmp 6) (.tmp 147) rfl G3 (kcT ⟨0, 0, 0⟩).toArray rfl rfl _ _ UZ3.out szT rfl (oneT _) ?_))
  have k4 : Keep (fun j => j = G3) w2 (w2.setRow G3 (kcT ⟨0, 0, 0⟩).toArray) := Keep.setRow w2 G3 _
  have KF := K8.out.trans (k4.mono (S' := fun j => CaBzT r bm g sf j ∨ w.heap.size ≤ j) (fun j _ e => .inr (by have e : j = G3 := e; rw [e]; exact HG3.out))) (fun j hj h => by rcases h with h | h; exact h; omega)
  have SFL := fun j hj => ownsRow_lt M0.out.fre j hj
  have MF := M8.out.keptAll k4 (fun e => by have h1 := RLT.out; have h2 := HG3.out; have e : r = G3 := e; omega) (fun e => by have h1 := BML.out; have h2 := HG3.out; have e : bm = G3 := e; omega) (fun e => N2G3.out e.symm) (fun j hj e => by have h1 := SFL j hj; have h2 := HG3.out; have e : j = G3 := e; omega)
  exact bodyPost_ret (res_cs rfl _ _ G3 _ (kcT ⟨0, 0, 0⟩).toArray _ rfl (setRow_heap _ _ _ _ _ _ UZ3.out) rfl Tryd.underlying30 szT) rfl ⟨rfl, CaBzT r bm g2 sf, ⟨H1024.out, bm, _, g2, n2, _, cur5, sf, _, _, MF, VA.out, fun k => Iff.rfl⟩, KF.mono (fun j _ hj => (HBB.out j).2 hj), fun k hk => by
    rcases hk with h | h | h | h
    · exact .inl ((HBB.out k).2 (.inl h))
    · exact .inl ((HBB.out k).2 (.inr (.inl h)))
    · rcases HGQ.out with e | e
      · exact .inl ((HBB.out k).2 (.inr (.inr (.inl (h.trans e)))))
      · exact .inr (by omega)
    · exact .inl ((HBB.out k).2 (.inr (.inr (.inr h))))⟩
end Go.Proofs.YtdepmjgibenejaaDoor
