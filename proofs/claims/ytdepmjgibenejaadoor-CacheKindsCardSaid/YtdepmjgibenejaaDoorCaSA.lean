/- Caches of string, int: their memory; out, first. -/
import Derived.Test.YtdepmjgibenejaaDoorCaM
import Derived.Test.YtdepmjgibenejaaDoorLast8
namespace Go.Proofs.YtdepmjgibenejaaDoor
set_option maxRecDepth 100000
open Go.RowKit Go.Maps
def kcS (k : ByteArray) : List Value := [.string k]
def vcS (v : Int) : List Value := [.int .i64 v]
def klS (k : ByteArray) : Lit := .string k.data.toList
theorem icell_oneS (x : CaI ByteArray Int) : (icell kcS vcS x).toArray.all (·.oneCell') = true := by simp [icell, kcS, vcS, Value.oneCell']
theorem sizeSit : (Tryd.prog.info? 87).map (·.size) = some 4 := by kernel_rfl
def zeroS : Array Value := #[.string ⟨#[]⟩, .int .i64 0, .int .i64 0, .int .i64 0]
theorem last_skipS {P : Program} {Q : Exit → Act → World → Prop} {o : Oper} {a : Act} {w w' : World} (hd : o.dst = none) (hr : (execOp a.eval o).run P w = .ok .skip w') (h : Q .normal a w') : o.wp P a w (Q .normal) Q := by
  unfold Oper.wp
  rw [hr]
  have e : a.put o.dst undef = a := by rw [hd]; rfl
  show Q .normal (a.put o.dst undef) w'
  rw [e]
  exact h
theorem rel_blkS {w : World} {b s1 n1 g : Nat} {e T : TypeId} {v1 : Value} {x1 : List Value} {c : Array Value} {fr : Nat × Nat} (h1 : w.ownsRow b e s1 v1 n1 x1) (h2 : w.heap[g]? = some (.cells c T fr)) (hne : e ≠ T) (k : Nat) (hk : v1.ownBlock = some k) : k ≠ g := by
  intro e0
  subst e0
  rcases h1.2 with ⟨rfl, _⟩ | ⟨g1, cap, cur, rfl, _, hg, _⟩
  · cases hk
  · cases hk
    rw [h2] at hg
    injection hg with hg; injection hg with _ hg
    exact hne hg.symm
/-- the memory of a cache: its block r, the map in block bm, the items' row in block g, the free places -/
structure CaMS (base : Nat) (w : World) (r bm most : Nat) (its : List (CaI ByteArray Int)) (g n c : Nat) (cur : Array Value) (fr : List Nat) (sf : Value) (D : DataW Unit) : Prop where
  hb : w.heap[r]? = some (.cells #[.int .i64 (most : Int), .map (some bm), .slice (some ⟨g, 0, none⟩) n c, sf] 54 (0, 0))
  br : base ≤ r
  bb : base ≤ bm
  nl : n = its.length
  row : RowG w base 87 4 g n c cur (icells kcS vcS its)
  fre : w.ownsRow base 3 1 sf fr.length (fr.map fun (j : Nat) => .int .i64 (j : Int))
  map : w.ownsMap Tryd.prog 9 (plainElem Tryd.prog 3) bm (Maps.size D) D
  sz : SzI kcS vcS 1 1 its
theorem CaMS.apart {base : Nat} {w : World} {r bm most : Nat} {its : List (CaI ByteArray Int)} {g n c : Nat} {cur : Array Value} {fr : List Nat} {sf : Value} {D : DataW Unit} (h : CaMS base w r bm most its g n c cur fr sf D) :
    r ≠ g ∧ bm ≠ g ∧ bm ≠ r ∧ ∀ k, sf.ownBlock = some k → k ≠ g ∧ k ≠ r ∧ k ≠ bm := by
  obtain ⟨es, clock, hm, _⟩ := h.map
  refine ⟨fun e => ?_, fun e => ?_, fun e => ?_, fun k hk => ⟨fun e => rel_blkS h.fre h.row.hb (by decide) k hk e, fun e => rel_blkS h.fre h.hb (by decide) k hk e, fun e => ?_⟩⟩
  · have h1 := h.hb
    rw [e, h.row.hb] at h1
    injection h1 with h1; injection h1 with _ h1; exact absurd h1 (by decide)
  · rw [e, h.row.hb] at hm; cases hm
  · rw [e, h.hb] at hm; cases hm
  · subst e
    rcases h.fre.2 with ⟨e, _⟩ | ⟨g1, cap, cur, e, _, hg, _⟩
    · rw [e] at hk; cases hk
    · rw [e] at hk
      cases hk
      rw [hm] at hg; cases hg
/-- nothing but the items' row turns -/
theorem CaMS.turnG {base : Nat} {w w' : World} {r bm most : Nat} {its its' : List (CaI ByteArray Int)} {g n c : Nat} {cur cur' : Array Value} {fr : List Nat} {sf : Value} {D : DataW Unit} (h : CaMS base w r bm most its g n c cur fr sf D)
    (k : Keep (fun j => j = g) w w') (hr : RowG w' base 87 4 g n c cur' (icells kcS vcS its')) (hl : its'.length = its.length) (hs : SzI kcS vcS 1 1 its') : CaMS base w' r bm most its' g n c cur' fr sf D := by
  obtain ⟨a1, a2, a3, a4⟩ := h.apart
  obtain ⟨es, clock, hm, hF⟩ := h.map
  refine ⟨(k.block r (Array.getElem?_eq_some_iff.1 h.hb).1 a1).trans h.hb, h.br, h.bb, h.nl.trans hl.symm, hr, ownsRow_keep' h.fre fun j hj => k.block j (ownsRow_lt h.fre j hj) (a4 j hj).1, ⟨es, clock, (k.block bm (Array.getElem?_eq_some_iff.1 hm).1 a2).trans hm, hF⟩, hs⟩
theorem CaMS.below {base : Nat} {w w' : World} {r bm most : Nat} {its : List (CaI ByteArray Int)} {g n c : Nat} {cur : Array Value} {fr : List Nat} {sf : Value} {D : DataW Unit} (h : CaMS base w r bm most its g n c cur fr sf D) (k : Below w.heap.size w w') : CaMS base w' r bm most its g n c cur fr sf D :=
  h.turnG (Keep.of_below k _) (h.row.kept (k.block g (Array.getElem?_eq_some_iff.1 h.row.hb).1)) rfl h.sz
def VSo0 (r g n c i : Nat) (XC : Array Value) (oi : Nat) (v : Value) (own : Nat → Option Nat) (w : World) : Prop :=
  match oi with
  | 0 => v = .pointer (some ⟨r, 0, none⟩)
  | 1 => v = .pointer (some ⟨r, 0, none⟩)
  | 2 => v = .pointer (some ⟨r, 2, none⟩)
  | 3 => v = .slice (some ⟨g, 0, none⟩) n c
  | 4 => v = .int .i64 (i : Int)
  | 5 => v = .pointer (some ⟨g, i * 4, none⟩)
  | 6 => v = .agg XC
  | 7 => AllocV own w v 8 87 4
  | 8 => StoredV own w 8 87 XC
  | _ => True
def VSo0mk : Nat → Option Nat := fun j => match j with | 8 => some 7 | _ => none
theorem VSo0_mono (r g n c i : Nat) (XC : Array Value) (oi oj : Nat) (v : Value) (own : Nat → Option Nat) (w : World) (own' : Nat → Option Nat) (w' : World) (hij : oi ≠ oj)   (h : VSo0 r g n c i XC oj v own w) (r1 : Rel VSo0mk oi own w own' w') : VSo0 r g n c i XC oj v own' w' := by
  unfold VSo0 at h ⊢
  split at h
  · exact h
  · exact h
  · exact h
  · exact h
  · exact h
  · exact h
  · exact h
  · exact h.stable r1 rfl hij
  · exact h.stable r1 hij
  · trivial

def VSo1 (r _bm _most g n c _i g4 y z : Nat) (_sf : Value) (oi : Nat) (v : Value) (_own : Nat → Option Nat) (_w : World) : Prop :=
  match oi with
  | 0 => v = .pointer (some ⟨r, 0, none⟩)
  | 1 => v = .pointer (some ⟨r, 0, none⟩)
  | 2 => v = .pointer (some ⟨r, 2, none⟩)
  | 3 => v = .slice (some ⟨g, 0, none⟩) n c
  | 4 => v = .pointer (some ⟨g4, 2, none⟩)
  | 5 => v = .int .i64 (y : Int)
  | 6 => v = .pointer (some ⟨g4, 3, none⟩)
  | 7 => v = .int .i64 (z : Int)
  | 8 => v = .pointer (some ⟨g, y * 4, none⟩)
  | 9 => v = .pointer (some ⟨g, y * 4 + 3, none⟩)
  | _ => True
def VSo1mk : Nat → Option Nat := fun _ => none
theorem VSo1_mono (r bm most g n c i g4 y z : Nat) (sf : Value) (oi oj : Nat) (v : Value) (own : Nat → Option Nat) (w : World) (own' : Nat → Option Nat) (w' : World) (hij : oi ≠ oj)   (h : VSo1 r bm most g n c i g4 y z sf oj v own w) (_r1 : Rel VSo1mk oi own w own' w') : VSo1 r bm most g n c i g4 y z sf oj v own' w' := by
  unfold VSo1 at h ⊢
  split at h
  · exact h
  · exact h
  · exact h
  · exact h
  · exact h
  · exact h
  · exact h
  · exact h
  · exact h
  · exact h
  · trivial

def VSo2 (r _bm _most g n c _i g4 y z : Nat) (_sf : Value) (oi : Nat) (v : Value) (_own : Nat → Option Nat) (_w : World) : Prop :=
  match oi with
  | 0 => v = .pointer (some ⟨r, 0, none⟩)
  | 1 => v = .pointer (some ⟨r, 0, none⟩)
  | 2 => v = .pointer (some ⟨r, 2, none⟩)
  | 3 => v = .slice (some ⟨g, 0, none⟩) n c
  | 4 => v = .pointer (some ⟨g4, 3, none⟩)
  | 5 => v = .int .i64 (z : Int)
  | 6 => v = .pointer (some ⟨g4, 2, none⟩)
  | 7 => v = .int .i64 (y : Int)
  | 8 => v = .pointer (some ⟨g, z * 4, none⟩)
  | 9 => v = .pointer (some ⟨g, z * 4 + 2, none⟩)
  | _ => True
def VSo2mk : Nat → Option Nat := fun _ => none
theorem VSo2_mono (r bm most g n c i g4 y z : Nat) (sf : Value) (oi oj : Nat) (v : Value) (own : Nat → Option Nat) (w : World) (own' : Nat → Option Nat) (w' : World) (hij : oi ≠ oj)   (h : VSo2 r bm most g n c i g4 y z sf oj v own w) (_r1 : Rel VSo2mk oi own w own' w') : VSo2 r bm most g n c i g4 y z sf oj v own' w' := by
  unfold VSo2 at h ⊢
  split at h
  · exact h
  · exact h
  · exact h
  · exact h
  · exact h
  · exact h
  · exact h
  · exact h
  · exact h
  · exact h
  · trivial

set_option maxHeartbeats 1600000 in
theorem out_anyS (base : Nat) (w : World) (r bm most : Nat) (its : List (CaI ByteArray Int)) (g n c : Nat) (cur : Array Value) (fr : List Nat) (sf : Value) (D : DataW Unit) (h : CaMS base w r bm most its g n c cur fr sf D) (i : Nat) (hi : i < its.length) (hn : nwF its i < its.length) (ho : olF its i < its.length) :
    Calls Tryd.prog 27 #[.pointer (some ⟨r, 0, none⟩), .int .i64 (i : Int)] w fun e w' => e = .returned (.tuple #[]) ∧ ∃ cur', CaMS base w' r bm most (outI its i) g n c cur' fr sf D ∧ Keep (fun k => k = g) w w' := by
  obtain ⟨x, hx⟩ : ∃ x, x = its[i] := ⟨_, rfl⟩
  obtain ⟨XC, hXC⟩ : ∃ XC, XC = (icell kcS vcS x).toArray := ⟨_, rfl⟩
  have hxs := h.sz _ (List.getElem_mem hi)
  rw [← hx] at hxs
  have hX4 : XC.size = 4 := by rw [hXC]; simp [icell, hxs.1, hxs.2]
  have hX1 : XC.all (·.oneCell') = true := by rw [hXC]; exact icell_oneS _
  have e1 : nwF its i = x.nw := by rw [nwF_get hi, ← hx]
  have e2 : olF its i = x.ol := by rw [olF_get hi, ← hx]
  obtain ⟨y, hy⟩ : ∃ y, y = x.nw := ⟨_, rfl⟩; obtain ⟨z, hz⟩ : ∃ z, z = x.ol := ⟨_, rfl⟩
  rw [← hy] at e1; rw [← hz] at e2
  have hXn : XC[2]? = some (.int .i64 (y : Int)) := by rw [hXC, hy]; simp [icell, hxs.1, hxs.2]
  have hXo : XC[3]? = some (.int .i64 (z : Int)) := by rw [hXC, hz]; simp [icell, hxs.1, hxs.2]
  rw [e1] at hn; rw [e2] at ho
  have hit : w.rangeAt g (i * 4) XC.toList := fun j v hv => by
    have hj : j < 4 := by rw [← hX4]; simpa using (List.getElem?_eq_some_iff.1 hv).1
    rw [hXC, hx, List.toList_toArray] at hv
    exact h.row.cell ((icells_item h.sz hi j hj).trans hv)
  have HN := Bx.mk (show i < n by rw [h.nl]; exact hi); have YN := Bx.mk (show y < n by rw [h.nl]; exact hn); have ZN := Bx.mk (show z < n by rw [h.nl]; exact ho)
  have H0 := Bx.mk h; have RX := Bx.mk hit; have X4 := Bx.mk hX4; have X1 := Bx.mk hX1; have XN := Bx.mk hXn; have XO := Bx.mk hXo
  have XR := Bx.mk h.hb; have GL := Bx.mk (Array.getElem?_eq_some_iff.1 h.row.hb).1; have RL := Bx.mk h.apart.1
  have EY := Bx.mk e1; have EZ := Bx.mk e2; have IL := Bx.mk hi
  clear h hx hXC hxs hX4 hX1 hy hz hXn hXo hn ho e1 e2 hit hi
  go_enter Tryd.func27, Tryd.ntmps27
  go_upto_region 0 with (fail)
  refine wp_region_seq8 (n := 32) VSo0mk (fun _ => none) (VSo0 r g n c i XC) (by kernel_rfl) rfl (fun _ _ => rfl) (fun _ _ _ _ h => by cases h) ?_ ?_ ?_
  · exact fun oi oj v own w own' w' hij h r1 => VSo0_mono r g n c i XC oi oj v own w own' w' (by omega)  h r1
  · intro oi o hi f u own hsame hsn hfr hlate hkeep8 hdep
    have hkeep := hkeep8 _ (Nat.le_refl _)
    have hb6 := hsn.below (B := w.heap.size) (fun _ _ => rfl) (Nat.le_refl _)
    match oi, hi with
    | 0, hi =>
      cases (show some _ = some o from hi)
      have e0 : f.tmps.getD 0 undef = .pointer (some ⟨r, 0, none⟩) := hlate 0 (earlyS (by kernel_rfl))
      clear hdep hsame hi hlate hfr hkeep
      exact .inl ⟨wanted_none rfl, showsO_move hsn rfl _ rfl e0⟩
    | 1, hi =>
      cases (show some _ = some o from hi)
      have e5 : (f.tmps.getD 5 undef) = .pointer (some ⟨r, 0, none⟩) := depS (V := (VSo0 r g n c i XC)) hdep 0 5 (by decide) (by kernel_rfl)
      clear hdep hsame hi hlate hfr hkeep
      exact .inl ⟨wanted_none rfl, showsO_pure hsn rfl (.pointer (some ⟨r, 0, none⟩)) (by simp only [execOp, Act.eval]; go_simp) rfl⟩
    | 2, hi =>
      cases (show some _ = some o from hi)
      have e6 : (f.tmps.getD 6 undef) = .pointer (some ⟨r, 0, none⟩) := depS (V := (VSo0 r g n c i XC)) hdep 1 6 (by decide) (by kernel_rfl)
      clear hdep hsame hi hlate hfr hkeep
      exact .inl ⟨wanted_none rfl, showsO_pure hsn rfl (.pointer (some ⟨r, 2, none⟩)) (by simp only [execOp, Act.eval]; go_simp) rfl⟩
    | 3, hi =>
      cases (show some _ = some o from hi)
      have e7 : (f.tmps.getD 7 undef) = .pointer (some ⟨r, 2, none⟩) := depS (V := (VSo0 r g n c i XC)) hdep 2 7 (by decide) (by kernel_rfl)
      clear hdep hsame hi hlate hfr hkeep
      have c8 := er_cellAt ((hb6.block _ (Array.getElem?_eq_some_iff.1 XR.out).1).trans XR.out) (2) _ rfl
      exact .inl ⟨wanted_none rfl, showsO_pure hsn rfl (.slice (some ⟨g, 0, none⟩) n c) (by simp only [execOp, Act.eval]; go_simp) rfl⟩
    | 4, hi =>
      cases (show some _ = some o from hi)
      have e1 : f.tmps.getD 1 undef = .int .i64 (i : Int) := hlate 1 (earlyS (by kernel_rfl))
      clear hdep hsame hi hlate hfr hkeep
      exact .inl ⟨wanted_none rfl, showsO_move hsn rfl _ rfl e1⟩
    | 5, hi =>
      cases (show some _ = some o from hi)
      have e8 : (f.tmps.getD 8 undef) = .slice (some ⟨g, 0, none⟩) n c := depS (V := (VSo0 r g n c i XC)) hdep 3 8 (by decide) (by kernel_rfl)
      have e9 : (f.tmps.getD 9 undef) = .int .i64 (i : Int) := depS (V := (VSo0 r g n c i XC)) hdep 4 9 (by decide) (by kernel_rfl)
      clear hdep hsame hi hlate hfr hkeep
      have f2 : ¬ (n : Int) ≤ (i : Int) := by have := HN.out; omega
      have f3 : (i : Int) < (n : Int) := by have := HN.out; omega
      exact .inl ⟨wanted_none rfl, showsO_pure hsn rfl (.pointer (some ⟨g, i * 4, none⟩)) (by simp only [execOp, Act.eval]; go_simp) rfl⟩
    | 6, hi =>
      cases (show some _ = some o from hi)
      have e10 : (f.tmps.getD 10 undef) = .pointer (some ⟨g, i * 4, none⟩) := depS (V := (VSo0 r g n c i XC)) hdep 5 10 (by decide) (by kernel_rfl)
      clear hdep hsame hi hlate hfr hkeep
      exact .inl ⟨wanted_none rfl, showsO_mid hsn rfl 87 (.tmp 10) rfl g (i * 4) e10 XC.toList (rangeB RX.out GL.out hb6) Tryd.underlying87 rfl (by rw [Array.length_toList, X4.out]; exact sizeSit) (congrArg Value.agg XC.toArray_toList)⟩
    | 7, hi =>
      cases (show some _ = some o from hi)
      clear hdep hsame hi hlate hkeep
      exact .inl ⟨wanted_none rfl, showsO_alloc hsn hfr rfl zeroS 87 8 rfl (by simp only [execOp, Act.eval]; go_simp <;> rfl) (fun h => h)⟩
    | 8, hi =>
      cases (show some _ = some o from hi)
      have e4 : AllocV own u (f.tmps.getD 4 undef) 8 87 4 := depS (V := (VSo0 r g n c i XC)) hdep 7 4 (by decide) (by kernel_rfl)
      have e11 : (f.tmps.getD 11 undef) = .agg XC := depS (V := (VSo0 r g n c i XC)) hdep 6 11 (by decide) (by kernel_rfl)
      clear hdep hsame hi hlate hfr hkeep
      exact .inl ⟨wanted_none rfl, showsO_store_alloc hsn rfl 87 (.tmp 4) (.tmp 11) rfl e4 XC e11 (by rw [X4.out]; exact sizeSit) (by rw [X4.out]) X1.out (fun _ h => h)⟩
    | n + 9, hi => exact absurd hi (by simp)
  intro fr W1 own hsame hsn hall
  have q5 : fr.tmps.getD 5 undef = .pointer (some ⟨r, 0, none⟩) := finO (V := (VSo0 r g n c i XC)) hall 0 5 rfl
  have q6 : fr.tmps.getD 6 undef = .pointer (some ⟨r, 0, none⟩) := finO (V := (VSo0 r g n c i XC)) hall 1 6 rfl
  have q7 : fr.tmps.getD 7 undef = .pointer (some ⟨r, 2, none⟩) := finO (V := (VSo0 r g n c i XC)) hall 2 7 rfl
  have q8 : fr.tmps.getD 8 undef = .slice (some ⟨g, 0, none⟩) n c := finO (V := (VSo0 r g n c i XC)) hall 3 8 rfl
  have q9 : fr.tmps.getD 9 undef = .int .i64 (i : Int) := finO (V := (VSo0 r g n c i XC)) hall 4 9 rfl
  have q10 : fr.tmps.getD 10 undef = .pointer (some ⟨g, i * 4, none⟩) := finO (V := (VSo0 r g n c i XC)) hall 5 10 rfl
  have q11 : fr.tmps.getD 11 undef = .agg XC := finO (V := (VSo0 r g n c i XC)) hall 6 11 rfl
  obtain ⟨g4, q4, o4, m4⟩ := AllocV.stored (finO (V := (VSo0 r g n c i XC)) hall 7 4 rfl) (finN (V := (VSo0 r g n c i XC)) hall 8 rfl)
  obtain rfl := frame_eq hsame [(5, .pointer (some ⟨r, 0, none⟩)), (6, .pointer (some ⟨r, 0, none⟩)), (7, .pointer (some ⟨r, 2, none⟩)), (8, .slice (some ⟨g, 0, none⟩) n c), (9, .int .i64 (i : Int)), (10, .pointer (some ⟨g, i * 4, none⟩)), (11, .agg XC), (4, .pointer (some ⟨g4, 0, none⟩))] (by kernel_rfl) ⟨q5, q6, q7, q8, q9, q10, q11, q4, trivial⟩
  clear hall hsame q5 q6 q7 q8 q9 q10 q11 q4
  simp only [List.foldl, List.setIfInBounds_toArray, List.set_cons_succ, List.set_cons_zero]
  have hb := hsn.below (B := w.heap.size) (fun _ _ => rfl) (Nat.le_refl _)
  have H1 := Bx.mk (H0.out.below hb); have K1 := Bx.mk (Keep.of_below hb (fun j => j = g)); have M4 := Bx.mk m4; have X1b := Bx.mk H1.out.hb
  have GE := Bx.mk (hsn.ge o4 (fun _ _ h => by cases h))
  have N4 : Bx (g4 ≠ g) := ⟨fun e => by have := GL.out; have := GE.out; omega⟩; have N5 : Bx (g4 ≠ r) := ⟨fun e => by have := (Array.getElem?_eq_some_iff.1 XR.out).1; have := GE.out; omega⟩
  clear hb hsn o4 m4 GE
  go_upto_region 1 with (fail)
  refine wp_region_last (n := 32) (m := 10) VSo1mk (fun _ => none) (VSo1 r bm most g n c i g4 y z sf) (by kernel_rfl) (by kernel_rfl) rfl rfl (by kernel_rfl) (fun _ _ => rfl) (fun j i hj _ => by cases hj) ?_ ?_ ?_
  · exact fun oi oj v own w own' w' hij _ h r1 => VSo1_mono r bm most g n c i g4 y z sf oi oj v own w own' w' hij h r1
  · intro oi o hltm hi f u own hsame hsn hfr hlate hkeep8 hdep
    have hkeep := hkeep8 _ (.inl rfl)
    have hb6 := hsn.below (B := W1.heap.size) (fun _ _ => rfl) (Nat.le_refl _)
    match oi, hi with
    | 0, hi =>
      cases (show some _ = some o from hi)
      have e0 : f.tmps.getD 0 undef = .pointer (some ⟨r, 0, none⟩) := hsame.slot 0 (fun i o h => invB2_not 0 (by kernel_rfl) h)
      clear hdep hsame hi hlate hfr hkeep
      exact .inl ⟨wanted_none rfl, showsO_move hsn rfl _ rfl e0⟩
    | 1, hi =>
      cases (show some _ = some o from hi)
      have e12 : (f.tmps.getD 12 undef) = .pointer (some ⟨r, 0, none⟩) := depO (V := (VSo1 r bm most g n c i g4 y z sf)) hdep 0 12 (by kernel_rfl) (by kernel_rfl)
      clear hdep hsame hi hlate hfr hkeep
      exact .inl ⟨wanted_none rfl, showsO_pure hsn rfl (.pointer (some ⟨r, 0, none⟩)) (by simp only [execOp, Act.eval]; go_simp) rfl⟩
    | 2, hi =>
      cases (show some _ = some o from hi)
      have e13 : (f.tmps.getD 13 undef) = .pointer (some ⟨r, 0, none⟩) := depO (V := (VSo1 r bm most g n c i g4 y z sf)) hdep 1 13 (by kernel_rfl) (by kernel_rfl)
      clear hdep hsame hi hlate hfr hkeep
      exact .inl ⟨wanted_none rfl, showsO_pure hsn rfl (.pointer (some ⟨r, 2, none⟩)) (by simp only [execOp, Act.eval]; go_simp) rfl⟩
    | 3, hi =>
      cases (show some _ = some o from hi)
      have e14 : (f.tmps.getD 14 undef) = .pointer (some ⟨r, 2, none⟩) := depO (V := (VSo1 r bm most g n c i g4 y z sf)) hdep 2 14 (by kernel_rfl) (by kernel_rfl)
      clear hdep hsame hi hlate hfr hkeep
      have c15 := er_cellAt ((hb6.block _ (Array.getElem?_eq_some_iff.1 X1b.out).1).trans X1b.out) (2) _ rfl
      exact .inl ⟨wanted_none rfl, showsO_pure hsn rfl (.slice (some ⟨g, 0, none⟩) n c) (by simp only [execOp, Act.eval]; go_simp) rfl⟩
    | 4, hi =>
      cases (show some _ = some o from hi)
      have e4 : f.tmps.getD 4 undef = .pointer (some ⟨g4, 0, none⟩) := hsame.slot 4 (fun i o h => invB2_not 4 (by kernel_rfl) h)
      clear hdep hsame hi hlate hfr hkeep
      exact .inl ⟨wanted_none rfl, showsO_pure hsn rfl (.pointer (some ⟨g4, 2, none⟩)) (by simp only [execOp, Act.eval]; go_simp) rfl⟩
    | 5, hi =>
      cases (show some _ = some o from hi)
      have e16 : (f.tmps.getD 16 undef) = .pointer (some ⟨g4, 2, none⟩) := depO (V := (VSo1 r bm most g n c i g4 y z sf)) hdep 4 16 (by kernel_rfl) (by kernel_rfl)
      clear hdep hsame hi hlate hfr hkeep
      have c17 := er_cellAt ((hb6.block _ (Array.getElem?_eq_some_iff.1 M4.out).1).trans M4.out) (2) _ XN.out
      exact .inl ⟨wanted_none rfl, showsO_pure hsn rfl (.int .i64 (y : Int)) (by simp only [execOp, Act.eval]; go_simp) rfl⟩
    | 6, hi =>
      cases (show some _ = some o from hi)
      have e4 : f.tmps.getD 4 undef = .pointer (some ⟨g4, 0, none⟩) := hsame.slot 4 (fun i o h => invB2_not 4 (by kernel_rfl) h)
      clear hdep hsame hi hlate hfr hkeep
      exact .inl ⟨wanted_none rfl, showsO_pure hsn rfl (.pointer (some ⟨g4, 3, none⟩)) (by simp only [execOp, Act.eval]; go_simp) rfl⟩
    | 7, hi =>
      cases (show some _ = some o from hi)
      have e18 : (f.tmps.getD 18 undef) = .pointer (some ⟨g4, 3, none⟩) := depO (V := (VSo1 r bm most g n c i g4 y z sf)) hdep 6 18 (by kernel_rfl) (by kernel_rfl)
      clear hdep hsame hi hlate hfr hkeep
      have c19 := er_cellAt ((hb6.block _ (Array.getElem?_eq_some_iff.1 M4.out).1).trans M4.out) (3) _ XO.out
      exact .inl ⟨wanted_none rfl, showsO_pure hsn rfl (.int .i64 (z : Int)) (by simp only [execOp, Act.eval]; go_simp) rfl⟩
    | 8, hi =>
      cases (show some _ = some o from hi)
      have e15 : (f.tmps.getD 15 undef) = .slice (some ⟨g, 0, none⟩) n c := depO (V := (VSo1 r bm most g n c i g4 y z sf)) hdep 3 15 (by kernel_rfl) (by kernel_rfl)
      have e17 : (f.tmps.getD 17 undef) = .int .i64 (y : Int) := depO (V := (VSo1 r bm most g n c i g4 y z sf)) hdep 5 17 (by kernel_rfl) (by kernel_rfl)
      clear hdep hsame hi hlate hfr hkeep
      have f2 : ¬ (n : Int) ≤ (y : Int) := by have := YN.out; omega
      have f3 : (y : Int) < (n : Int) := by have := YN.out; omega
      exact .inl ⟨wanted_none rfl, showsO_pure hsn rfl (.pointer (some ⟨g, y * 4, none⟩)) (by simp only [execOp, Act.eval]; go_simp) rfl⟩
    | 9, hi =>
      cases (show some _ = some o from hi)
      have e20 : (f.tmps.getD 20 undef) = .pointer (some ⟨g, y * 4, none⟩) := depO (V := (VSo1 r bm most g n c i g4 y z sf)) hdep 8 20 (by kernel_rfl) (by kernel_rfl)
      clear hdep hsame hi hlate hfr hkeep
      exact .inl ⟨wanted_none rfl, showsO_pure hsn rfl (.pointer (some ⟨g, y * 4 + 3, none⟩)) (by simp only [execOp, Act.eval]; go_simp) rfl⟩
    | n + 10, hi => exact absurd hltm (by omega)
  intro o ho fr u1 own hsame hsn hla hall
  cases (show some _ = some o from ho)
  have q12 : fr.tmps.getD 12 undef = .pointer (some ⟨r, 0, none⟩) := finL (V := (VSo1 r bm most g n c i g4 y z sf)) hall 0 12 (by decide) rfl
  have q13 : fr.tmps.getD 13 undef = .pointer (some ⟨r, 0, none⟩) := finL (V := (VSo1 r bm most g n c i g4 y z sf)) hall 1 13 (by decide) rfl
  have q14 : fr.tmps.getD 14 undef = .pointer (some ⟨r, 2, none⟩) := finL (V := (VSo1 r bm most g n c i g4 y z sf)) hall 2 14 (by decide) rfl
  have q15 : fr.tmps.getD 15 undef = .slice (some ⟨g, 0, none⟩) n c := finL (V := (VSo1 r bm most g n c i g4 y z sf)) hall 3 15 (by decide) rfl
  have q16 : fr.tmps.getD 16 undef = .pointer (some ⟨g4, 2, none⟩) := finL (V := (VSo1 r bm most g n c i g4 y z sf)) hall 4 16 (by decide) rfl
  have q17 : fr.tmps.getD 17 undef = .int .i64 (y : Int) := finL (V := (VSo1 r bm most g n c i g4 y z sf)) hall 5 17 (by decide) rfl
  have q18 : fr.tmps.getD 18 undef = .pointer (some ⟨g4, 3, none⟩) := finL (V := (VSo1 r bm most g n c i g4 y z sf)) hall 6 18 (by decide) rfl
  have q19 : fr.tmps.getD 19 undef = .int .i64 (z : Int) := finL (V := (VSo1 r bm most g n c i g4 y z sf)) hall 7 19 (by decide) rfl
  have q20 : fr.tmps.getD 20 undef = .pointer (some ⟨g, y * 4, none⟩) := finL (V := (VSo1 r bm most g n c i g4 y z sf)) hall 8 20 (by decide) rfl
  have q21 : fr.tmps.getD 21 undef = .pointer (some ⟨g, y * 4 + 3, none⟩) := finL (V := (VSo1 r bm most g n c i g4 y z sf)) hall 9 21 (by decide) rfl
  obtain rfl := frame_eq hsame [(12, .pointer (some ⟨r, 0, none⟩)), (13, .pointer (some ⟨r, 0, none⟩)), (14, .pointer (some ⟨r, 2, none⟩)), (15, .slice (some ⟨g, 0, none⟩) n c), (16, .pointer (some ⟨g4, 2, none⟩)), (17, .int .i64 (y : Int)), (18, .pointer (some ⟨g4, 3, none⟩)), (19, .int .i64 (z : Int)), (20, .pointer (some ⟨g, y * 4, none⟩)), (21, .pointer (some ⟨g, y * 4 + 3, none⟩))] (by kernel_rfl) ⟨q12, q13, q14, q15, q16, q17, q18, q19, q20, q21, trivial⟩
  clear hall hsame q12 q13 q14 q15 q16 q17 q18 q19 q20 q21
  simp only [List.foldl, List.setIfInBounds_toArray, List.set_cons_succ, List.set_cons_zero]
  have hb := hsn.below (B := W1.heap.size) (fun _ _ => rfl) (Nat.le_refl _)
  have H1 := H1.out.below hb
  have cc := H1.row.cell (icells_ol H1.sz (j := y) (by rw [← H1.nl]; exact YN.out))
  have ff := frozenC H1.row.hb (y * 4 + 3)
  have hk : Keep (fun j => j = g) u1 (u1.setCell ⟨g, y * 4 + 3, none⟩ (.int .i64 (z : Int))) := Keep.setCell u1 ⟨g, y * 4 + 3, none⟩ _
  have hrow := H1.row.setW (y * 4 + 3) (.int .i64 (z : Int))
  rw [icells_setOl H1.sz] at hrow
  have K2 := Bx.mk ((K1.out.trans (Keep.of_below hb (fun j => j = g)) (fun _ _ h => h)).trans hk (fun _ _ h => h))
  have H2 := Bx.mk (H1.turnG hk hrow (setOl_len _ _ _) (SzI.setOl H1.sz _ _))
  have M5 := Bx.mk ((hk.block g4 (Nat.lt_of_lt_of_le (Array.getElem?_eq_some_iff.1 M4.out).1 hb.size) N4.out).trans ((hb.block _ (Array.getElem?_eq_some_iff.1 M4.out).1).trans M4.out))
  refine ⟨wanted_none rfl, last_skipS (w' := u1.setCell ⟨g, y * 4 + 3, none⟩ (.int .i64 (z : Int))) rfl (by simp only [execOp, Act.eval]; go_simp) ?_⟩
  clear cc ff hrow hk H1 hb hsn hla ho M4
  generalize u1.setCell ⟨g, y * 4 + 3, none⟩ (.int .i64 (z : Int)) = u1b at H2 K2 M5 ⊢
  have H3 := H2; have M4 := M5; have X3 := Bx.mk H2.out.hb
  clear H2 M5 H1 X1b K1
  go_upto_region 2 with (fail)
  refine wp_region_last (n := 32) (m := 10) VSo2mk (fun _ => none) (VSo2 r bm most g n c i g4 y z sf) (by kernel_rfl) (by kernel_rfl) rfl rfl (by kernel_rfl) (fun _ _ => rfl) (fun j i hj _ => by cases hj) ?_ ?_ ?_
  · exact fun oi oj v own w own' w' hij _ h r1 => VSo2_mono r bm most g n c i g4 y z sf oi oj v own w own' w' hij h r1
  · intro oi o hltm hi f u own hsame hsn hfr hlate hkeep8 hdep
    have hkeep := hkeep8 _ (.inl rfl)
    have hb6 := hsn.below (B := u1b.heap.size) (fun _ _ => rfl) (Nat.le_refl _)
    match oi, hi with
    | 0, hi =>
      cases (show some _ = some o from hi)
      have e0 : f.tmps.getD 0 undef = .pointer (some ⟨r, 0, none⟩) := hsame.slot 0 (fun i o h => invB2_not 0 (by kernel_rfl) h)
      clear hdep hsame hi hlate hfr hkeep
      exact .inl ⟨wanted_none rfl, showsO_move hsn rfl _ rfl e0⟩
    | 1, hi =>
      cases (show some _ = some o from hi)
      have e22 : (f.tmps.getD 22 undef) = .pointer (some ⟨r, 0, none⟩) := depO (V := (VSo2 r bm most g n c i g4 y z sf)) hdep 0 22 (by kernel_rfl) (by kernel_rfl)
      clear hdep hsame hi hlate hfr hkeep
      exact .inl ⟨wanted_none rfl, showsO_pure hsn rfl (.pointer (some ⟨r, 0, none⟩)) (by simp only [execOp, Act.eval]; go_simp) rfl⟩
    | 2, hi =>
      cases (show some _ = some o from hi)
      have e23 : (f.tmps.getD 23 undef) = .pointer (some ⟨r, 0, none⟩) := depO (V := (VSo2 r bm most g n c i g4 y z sf)) hdep 1 23 (by kernel_rfl) (by kernel_rfl)
      clear hdep hsame hi hlate hfr hkeep
      exact .inl ⟨wanted_none rfl, showsO_pure hsn rfl (.pointer (some ⟨r, 2, none⟩)) (by simp only [execOp, Act.eval]; go_simp) rfl⟩
    | 3, hi =>
      cases (show some _ = some o from hi)
      have e24 : (f.tmps.getD 24 undef) = .pointer (some ⟨r, 2, none⟩) := depO (V := (VSo2 r bm most g n c i g4 y z sf)) hdep 2 24 (by kernel_rfl) (by kernel_rfl)
      clear hdep hsame hi hlate hfr hkeep
      have c25 := er_cellAt ((hb6.block _ (Array.getElem?_eq_some_iff.1 X3.out).1).trans X3.out) (2) _ rfl
      exact .inl ⟨wanted_none rfl, showsO_pure hsn rfl (.slice (some ⟨g, 0, none⟩) n c) (by simp only [execOp, Act.eval]; go_simp) rfl⟩
    | 4, hi =>
      cases (show some _ = some o from hi)
      have e4 : f.tmps.getD 4 undef = .pointer (some ⟨g4, 0, none⟩) := hsame.slot 4 (fun i o h => invB2_not 4 (by kernel_rfl) h)
      clear hdep hsame hi hlate hfr hkeep
      exact .inl ⟨wanted_none rfl, showsO_pure hsn rfl (.pointer (some ⟨g4, 3, none⟩)) (by simp only [execOp, Act.eval]; go_simp) rfl⟩
    | 5, hi =>
      cases (show some _ = some o from hi)
      have e26 : (f.tmps.getD 26 undef) = .pointer (some ⟨g4, 3, none⟩) := depO (V := (VSo2 r bm most g n c i g4 y z sf)) hdep 4 26 (by kernel_rfl) (by kernel_rfl)
      clear hdep hsame hi hlate hfr hkeep
      have c27 := er_cellAt ((hb6.block _ (Array.getElem?_eq_some_iff.1 M4.out).1).trans M4.out) (3) _ XO.out
      exact .inl ⟨wanted_none rfl, showsO_pure hsn rfl (.int .i64 (z : Int)) (by simp only [execOp, Act.eval]; go_simp) rfl⟩
    | 6, hi =>
      cases (show some _ = some o from hi)
      have e4 : f.tmps.getD 4 undef = .pointer (some ⟨g4, 0, none⟩) := hsame.slot 4 (fun i o h => invB2_not 4 (by kernel_rfl) h)
      clear hdep hsame hi hlate hfr hkeep
      exact .inl ⟨wanted_none rfl, showsO_pure hsn rfl (.pointer (some ⟨g4, 2, none⟩)) (by simp only [execOp, Act.eval]; go_simp) rfl⟩
    | 7, hi =>
      cases (show some _ = some o from hi)
      have e28 : (f.tmps.getD 28 undef) = .pointer (some ⟨g4, 2, none⟩) := depO (V := (VSo2 r bm most g n c i g4 y z sf)) hdep 6 28 (by kernel_rfl) (by kernel_rfl)
      clear hdep hsame hi hlate hfr hkeep
      have c29 := er_cellAt ((hb6.block _ (Array.getElem?_eq_some_iff.1 M4.out).1).trans M4.out) (2) _ XN.out
      exact .inl ⟨wanted_none rfl, showsO_pure hsn rfl (.int .i64 (y : Int)) (by simp only [execOp, Act.eval]; go_simp) rfl⟩
    | 8, hi =>
      cases (show some _ = some o from hi)
      have e25 : (f.tmps.getD 25 undef) = .slice (some ⟨g, 0, none⟩) n c := depO (V := (VSo2 r bm most g n c i g4 y z sf)) hdep 3 25 (by kernel_rfl) (by kernel_rfl)
      have e27 : (f.tmps.getD 27 undef) = .int .i64 (z : Int) := depO (V := (VSo2 r bm most g n c i g4 y z sf)) hdep 5 27 (by kernel_rfl) (by kernel_rfl)
      clear hdep hsame hi hlate hfr hkeep
      have f2 : ¬ (n : Int) ≤ (z : Int) := by have := ZN.out; omega
      have f3 : (z : Int) < (n : Int) := by have := ZN.out; omega
      exact .inl ⟨wanted_none rfl, showsO_pure hsn rfl (.pointer (some ⟨g, z * 4, none⟩)) (by simp only [execOp, Act.eval]; go_simp) rfl⟩
    | 9, hi =>
      cases (show some _ = some o from hi)
      have e30 : (f.tmps.getD 30 undef) = .pointer (some ⟨g, z * 4, none⟩) := depO (V := (VSo2 r bm most g n c i g4 y z sf)) hdep 8 30 (by kernel_rfl) (by kernel_rfl)
      clear hdep hsame hi hlate hfr hkeep
      exact .inl ⟨wanted_none rfl, showsO_pure hsn rfl (.pointer (some ⟨g, z * 4 + 2, none⟩)) (by simp only [execOp, Act.eval]; go_simp) rfl⟩
    | n + 10, hi => exact absurd hltm (by omega)
  intro o ho fr u2 own hsame hsn hla hall
  cases (show some _ = some o from ho)
  have q22 : fr.tmps.getD 22 undef = .pointer (some ⟨r, 0, none⟩) := finL (V := (VSo2 r bm most g n c i g4 y z sf)) hall 0 22 (by decide) rfl
  have q23 : fr.tmps.getD 23 undef = .pointer (some ⟨r, 0, none⟩) := finL (V := (VSo2 r bm most g n c i g4 y z sf)) hall 1 23 (by decide) rfl
  have q24 : fr.tmps.getD 24 undef = .pointer (some ⟨r, 2, none⟩) := finL (V := (VSo2 r bm most g n c i g4 y z sf)) hall 2 24 (by decide) rfl
  have q25 : fr.tmps.getD 25 undef = .slice (some ⟨g, 0, none⟩) n c := finL (V := (VSo2 r bm most g n c i g4 y z sf)) hall 3 25 (by decide) rfl
  have q26 : fr.tmps.getD 26 undef = .pointer (some ⟨g4, 3, none⟩) := finL (V := (VSo2 r bm most g n c i g4 y z sf)) hall 4 26 (by decide) rfl
  have q27 : fr.tmps.getD 27 undef = .int .i64 (z : Int) := finL (V := (VSo2 r bm most g n c i g4 y z sf)) hall 5 27 (by decide) rfl
  have q28 : fr.tmps.getD 28 undef = .pointer (some ⟨g4, 2, none⟩) := finL (V := (VSo2 r bm most g n c i g4 y z sf)) hall 6 28 (by decide) rfl
  have q29 : fr.tmps.getD 29 undef = .int .i64 (y : Int) := finL (V := (VSo2 r bm most g n c i g4 y z sf)) hall 7 29 (by decide) rfl
  have q30 : fr.tmps.getD 30 undef = .pointer (some ⟨g, z * 4, none⟩) := finL (V := (VSo2 r bm most g n c i g4 y z sf)) hall 8 30 (by decide) rfl
  have q31 : fr.tmps.getD 31 undef = .pointer (some ⟨g, z * 4 + 2, none⟩) := finL (V := (VSo2 r bm most g n c i g4 y z sf)) hall 9 31 (by decide) rfl
  obtain rfl := frame_eq hsame [(22, .pointer (some ⟨r, 0, none⟩)), (23, .pointer (some ⟨r, 0, none⟩)), (24, .pointer (some ⟨r, 2, none⟩)), (25, .slice (some ⟨g, 0, none⟩) n c), (26, .pointer (some ⟨g4, 3, none⟩)), (27, .int .i64 (z : Int)), (28, .pointer (some ⟨g4, 2, none⟩)), (29, .int .i64 (y : Int)), (30, .pointer (some ⟨g, z * 4, none⟩)), (31, .pointer (some ⟨g, z * 4 + 2, none⟩))] (by kernel_rfl) ⟨q22, q23, q24, q25, q26, q27, q28, q29, q30, q31, trivial⟩
  clear hall hsame q22 q23 q24 q25 q26 q27 q28 q29 q30 q31
  simp only [List.foldl, List.setIfInBounds_toArray, List.set_cons_succ, List.set_cons_zero]
  have hb := hsn.below (B := u1b.heap.size) (fun _ _ => rfl) (Nat.le_refl _)
  have H1 := H3.out.below hb
  have cc := H1.row.cell (icells_nw H1.sz (j := z) (by rw [← H1.nl]; exact ZN.out))
  have ff := frozenC H1.row.hb (z * 4 + 2)
  have hk : Keep (fun j => j = g) u2 (u2.setCell ⟨g, z * 4 + 2, none⟩ (.int .i64 (y : Int))) := Keep.setCell u2 ⟨g, z * 4 + 2, none⟩ _
  have hrow := H1.row.setW (z * 4 + 2) (.int .i64 (y : Int))
  rw [icells_setNw H1.sz] at hrow
  have K3 := Bx.mk ((K2.out.trans (Keep.of_below hb (fun j => j = g)) (fun _ _ h => h)).trans hk (fun _ _ h => h))
  have H2 := Bx.mk (H1.turnG hk hrow (setNw_len _ _ _) (SzI.setNw H1.sz _ _))
  have M5 := Bx.mk ((hk.block g4 (Nat.lt_of_lt_of_le (Array.getElem?_eq_some_iff.1 M4.out).1 hb.size) N4.out).trans ((hb.block _ (Array.getElem?_eq_some_iff.1 M4.out).1).trans M4.out))
  refine ⟨wanted_none rfl, last_skipS (w' := u2.setCell ⟨g, z * 4 + 2, none⟩ (.int .i64 (y : Int))) rfl (by simp only [execOp, Act.eval]; go_simp) ?_⟩
  clear cc ff hrow hk H1 hb hsn hla ho M4
  generalize u2.setCell ⟨g, z * 4 + 2, none⟩ (.int .i64 (y : Int)) = u2b at H2 K3 M5 ⊢
  have hz := H2.out
  go_wp2_with fail
  go_end0
  exact ⟨rfl, _, by unfold outI; rw [EY.out, EZ.out]; exact hz, K3.out⟩
def VSf1 (_base r _most g n c i z : Nat) (_bm : Nat) (_its : List (CaI ByteArray Int)) (cur : Array Value) (_sf : Value) (oi : Nat) (v : Value) (own : Nat → Option Nat) (w : World) : Prop :=
  match oi with
  | 0 => v = .pointer (some ⟨r, 0, none⟩)
  | 1 => v = .pointer (some ⟨r, 0, none⟩)
  | 2 => v = .pointer (some ⟨r, 2, none⟩)
  | 3 => v = .slice (some ⟨g, 0, none⟩) n c
  | 4 => v = .int .i64 (i : Int)
  | 5 => v = .pointer (some ⟨r, 0, none⟩)
  | 6 => v = .pointer (some ⟨r, 0, none⟩)
  | 7 => v = .pointer (some ⟨r, 2, none⟩)
  | 8 => v = .slice (some ⟨g, 0, none⟩) n c
  | 9 => v = .int .i64 (i : Int)
  | 10 => v = .int .i64 (z : Int)
  | 11 => v = .pointer (some ⟨g, i * 4, none⟩)
  | 12 => v = .pointer (some ⟨g, i * 4 + 2, none⟩)
  | 13 => OutV own w (g) 13 87 (cur.setIfInBounds (i * 4 + 2) (.int .i64 0))
  | 14 => v = .pointer (some ⟨g, i * 4, none⟩)
  | 15 => v = .pointer (some ⟨g, i * 4 + 3, none⟩)
  | _ => True
def VSf1mk : Nat → Option Nat := fun _ => none
theorem VSf1_mono (base r most g n c i z : Nat) (bm : Nat) (its : List (CaI ByteArray Int)) (cur : Array Value) (sf : Value) (oi oj : Nat) (v : Value) (own : Nat → Option Nat) (w : World) (own' : Nat → Option Nat) (w' : World) (hij : oi ≠ oj)   (h : VSf1 base r most g n c i z bm its cur sf oj v own w) (r1 : Rel VSf1mk oi own w own' w') : VSf1 base r most g n c i z bm its cur sf oj v own' w' := by
  unfold VSf1 at h ⊢
  split at h
  · exact h
  · exact h
  · exact h
  · exact h
  · exact h
  · exact h
  · exact h
  · exact h
  · exact h
  · exact h
  · exact h
  · exact h
  · exact h
  · exact h.stable r1 hij
  · exact h
  · exact h
  · trivial

set_option maxHeartbeats 1600000 in
theorem first_anyS (base : Nat) (w : World) (r bm most : Nat) (its : List (CaI ByteArray Int)) (g n c : Nat) (cur : Array Value) (fr : List Nat) (sf : Value) (D : DataW Unit) (h : CaMS base w r bm most its g n c cur fr sf D) (i : Nat) (hi : i < its.length) (ho : olF its 0 < its.length) :
    Calls Tryd.prog 28 #[.pointer (some ⟨r, 0, none⟩), .int .i64 (i : Int)] w fun e w' => e = .returned (.tuple #[]) ∧ ∃ cur', CaMS base w' r bm most (firstI its i) g n c cur' fr sf D ∧ Keep (fun k => k = g) w w' := by
  obtain ⟨z, hz⟩ : ∃ z, z = olF its 0 := ⟨_, rfl⟩
  rw [← hz] at ho
  have EZ := Bx.mk hz; have HN := Bx.mk (show i < n by rw [h.nl]; exact hi); have ZN := Bx.mk (show z < n by rw [h.nl]; exact ho); have PN := Bx.mk (show 0 < n by rw [h.nl]; exact Nat.lt_of_le_of_lt (Nat.zero_le _) hi)
  have H0 := Bx.mk h
  have XR := Bx.mk h.hb; have GL := Bx.mk (Array.getElem?_eq_some_iff.1 h.row.hb).1; have RL := Bx.mk h.apart.1
  have c2 := er_cellAt h.hb 2 _ rfl
  have cz := h.row.cell (icells_ol h.sz (j := 0) (by rw [← h.nl]; exact PN.out))
  rw [← hz, Nat.zero_mul, Nat.zero_add] at cz
  have f0 : (0 : Int) < (n : Int) := by have := PN.out; omega
  clear h hz ho hi
  go_enter Tryd.func28, Tryd.ntmps28
  go_upto_region 1 with (fail)
  clear c2 cz f0
  refine wp_region_last (n := 42) (m := 16) VSf1mk (fun k => if k = g then some 13 else none) (VSf1 base r most g n c i z bm its cur sf) (by kernel_rfl) (by kernel_rfl) rfl rfl (by kernel_rfl) (fun k hk => if_neg (by have := GL.out; omega)) (fun j i hj _ => by cases hj) ?_ ?_ ?_
  · exact fun oi oj v own w own' w' hij _ h r1 => VSf1_mono base r most g n c i z bm its cur sf oi oj v own w own' w' hij h r1
  · intro oi o hltm hi f u own hsame hsn hfr hlate hkeep8 hdep
    have hkeep := hkeep8 _ (.inl rfl)
    have hk6 := hsn.keepOne
    match oi, hi with
    | 0, hi =>
      cases (show some _ = some o from hi)
      have e0 : f.tmps.getD 0 undef = .pointer (some ⟨r, 0, none⟩) := hsame.slot 0 (fun i o h => invB2_not 0 (by kernel_rfl) h)
      clear hdep hsame hi hlate hfr hkeep
      exact .inl ⟨wanted_none rfl, showsO_move hsn rfl _ rfl e0⟩
    | 1, hi =>
      cases (show some _ = some o from hi)
      have e12 : (f.tmps.getD 12 undef) = .pointer (some ⟨r, 0, none⟩) := depO (V := (VSf1 base r most g n c i z bm its cur sf)) hdep 0 12 (by kernel_rfl) (by kernel_rfl)
      clear hdep hsame hi hlate hfr hkeep
      exact .inl ⟨wanted_none rfl, showsO_pure hsn rfl (.pointer (some ⟨r, 0, none⟩)) (by simp only [execOp, Act.eval]; go_simp) rfl⟩
    | 2, hi =>
      cases (show some _ = some o from hi)
      have e13 : (f.tmps.getD 13 undef) = .pointer (some ⟨r, 0, none⟩) := depO (V := (VSf1 base r most g n c i z bm its cur sf)) hdep 1 13 (by kernel_rfl) (by kernel_rfl)
      clear hdep hsame hi hlate hfr hkeep
      exact .inl ⟨wanted_none rfl, showsO_pure hsn rfl (.pointer (some ⟨r, 2, none⟩)) (by simp only [execOp, Act.eval]; go_simp) rfl⟩
    | 3, hi =>
      cases (show some _ = some o from hi)
      have e14 : (f.tmps.getD 14 undef) = .pointer (some ⟨r, 2, none⟩) := depO (V := (VSf1 base r most g n c i z bm its cur sf)) hdep 2 14 (by kernel_rfl) (by kernel_rfl)
      clear hdep hsame hi hlate hfr hkeep
      have c15 := er_cellAt ((hk6.block _ (Array.getElem?_eq_some_iff.1 XR.out).1 RL.out).trans XR.out) 2 _ rfl
      exact .inl ⟨wanted_none rfl, showsO_pure hsn rfl (.slice (some ⟨g, 0, none⟩) n c) (by simp only [execOp, Act.eval]; go_simp) rfl⟩
    | 4, hi =>
      cases (show some _ = some o from hi)
      have e1 : f.tmps.getD 1 undef = .int .i64 (i : Int) := hsame.slot 1 (fun i o h => invB2_not 1 (by kernel_rfl) h)
      clear hdep hsame hi hlate hfr hkeep
      exact .inl ⟨wanted_none rfl, showsO_move hsn rfl _ rfl e1⟩
    | 5, hi =>
      cases (show some _ = some o from hi)
      have e0 : f.tmps.getD 0 undef = .pointer (some ⟨r, 0, none⟩) := hsame.slot 0 (fun i o h => invB2_not 0 (by kernel_rfl) h)
      clear hdep hsame hi hlate hfr hkeep
      exact .inl ⟨wanted_none rfl, showsO_move hsn rfl _ rfl e0⟩
    | 6, hi =>
      cases (show some _ = some o from hi)
      have e17 : (f.tmps.getD 17 undef) = .pointer (some ⟨r, 0, none⟩) := depO (V := (VSf1 base r most g n c i z bm its cur sf)) hdep 5 17 (by kernel_rfl) (by kernel_rfl)
      clear hdep hsame hi hlate hfr hkeep
      exact .inl ⟨wanted_none rfl, showsO_pure hsn rfl (.pointer (some ⟨r, 0, none⟩)) (by simp only [execOp, Act.eval]; go_simp) rfl⟩
    | 7, hi =>
      cases (show some _ = some o from hi)
      have e18 : (f.tmps.getD 18 undef) = .pointer (some ⟨r, 0, none⟩) := depO (V := (VSf1 base r most g n c i z bm its cur sf)) hdep 6 18 (by kernel_rfl) (by kernel_rfl)
      clear hdep hsame hi hlate hfr hkeep
      exact .inl ⟨wanted_none rfl, showsO_pure hsn rfl (.pointer (some ⟨r, 2, none⟩)) (by simp only [execOp, Act.eval]; go_simp) rfl⟩
    | 8, hi =>
      cases (show some _ = some o from hi)
      have e19 : (f.tmps.getD 19 undef) = .pointer (some ⟨r, 2, none⟩) := depO (V := (VSf1 base r most g n c i z bm its cur sf)) hdep 7 19 (by kernel_rfl) (by kernel_rfl)
      clear hdep hsame hi hlate hfr hkeep
      have c20 := er_cellAt ((hk6.block _ (Array.getElem?_eq_some_iff.1 XR.out).1 RL.out).trans XR.out) 2 _ rfl
      exact .inl ⟨wanted_none rfl, showsO_pure hsn rfl (.slice (some ⟨g, 0, none⟩) n c) (by simp only [execOp, Act.eval]; go_simp) rfl⟩
    | 9, hi =>
      cases (show some _ = some o from hi)
      have e1 : f.tmps.getD 1 undef = .int .i64 (i : Int) := hsame.slot 1 (fun i o h => invB2_not 1 (by kernel_rfl) h)
      clear hdep hsame hi hlate hfr hkeep
      exact .inl ⟨wanted_none rfl, showsO_move hsn rfl _ rfl e1⟩
    | 10, hi =>
      cases (show some _ = some o from hi)
      have e4 : f.tmps.getD 4 undef = .int .i64 (z : Int) := hsame.slot 4 (fun i o h => invB2_not 4 (by kernel_rfl) h)
      clear hdep hsame hi hlate hfr hkeep
      exact .inl ⟨wanted_none rfl, showsO_move hsn rfl _ rfl e4⟩
    | 11, hi =>
      cases (show some _ = some o from hi)
      have e15 : (f.tmps.getD 15 undef) = .slice (some ⟨g, 0, none⟩) n c := depO (V := (VSf1 base r most g n c i z bm its cur sf)) hdep 3 15 (by kernel_rfl) (by kernel_rfl)
      have e16 : (f.tmps.getD 16 undef) = .int .i64 (i : Int) := depO (V := (VSf1 base r most g n c i z bm its cur sf)) hdep 4 16 (by kernel_rfl) (by kernel_rfl)
      clear hdep hsame hi hlate hfr hkeep
      have f2 : ¬ (n : Int) ≤ (i : Int) := by have := HN.out; omega
      have f3 : (i : Int) < (n : Int) := by have := HN.out; omega
      exact .inl ⟨wanted_none rfl, showsO_pure hsn rfl (.pointer (some ⟨g, i * 4, none⟩)) (by simp only [execOp, Act.eval]; go_simp) rfl⟩
    | 12, hi =>
      cases (show some _ = some o from hi)
      have e23 : (f.tmps.getD 23 undef) = .pointer (some ⟨g, i * 4, none⟩) := depO (V := (VSf1 base r most g n c i z bm its cur sf)) hdep 11 23 (by kernel_rfl) (by kernel_rfl)
      clear hdep hsame hi hlate hfr hkeep
      exact .inl ⟨wanted_none rfl, showsO_pure hsn rfl (.pointer (some ⟨g, i * 4 + 2, none⟩)) (by simp only [execOp, Act.eval]; go_simp) rfl⟩
    | 13, hi =>
      cases (show some _ = some o from hi)
      have e24 : (f.tmps.getD 24 undef) = .pointer (some ⟨g, i * 4 + 2, none⟩) := depO (V := (VSf1 base r most g n c i z bm its cur sf)) hdep 12 24 (by kernel_rfl) (by kernel_rfl)
      clear hdep hsame hi hlate hfr hkeep
      have hg := H0.out.row.kept (hkeep8 13 (.inl rfl) g GL.out (if_pos rfl))
      have cc := hg.cell (icells_nw H0.out.sz (j := i) (by rw [← H0.out.nl]; exact HN.out))
      have ff := frozenC hg.hb (i * 4 + 2)
      exact .inl ⟨wanted_none rfl, showsO_store_cell hsn hkeep8 rfl g (i * 4 + 2) cur 87 H0.out.row.hb (if_pos rfl) (.int .i64 0) (by simp only [execOp, Act.eval]; go_simp) (fun h => h)⟩
    | 14, hi =>
      cases (show some _ = some o from hi)
      have e20 : (f.tmps.getD 20 undef) = .slice (some ⟨g, 0, none⟩) n c := depO (V := (VSf1 base r most g n c i z bm its cur sf)) hdep 8 20 (by kernel_rfl) (by kernel_rfl)
      have e21 : (f.tmps.getD 21 undef) = .int .i64 (i : Int) := depO (V := (VSf1 base r most g n c i z bm its cur sf)) hdep 9 21 (by kernel_rfl) (by kernel_rfl)
      clear hdep hsame hi hlate hfr hkeep
      have f2 : ¬ (n : Int) ≤ (i : Int) := by have := HN.out; omega
      have f3 : (i : Int) < (n : Int) := by have := HN.out; omega
      exact .inl ⟨wanted_none rfl, showsO_pure hsn rfl (.pointer (some ⟨g, i * 4, none⟩)) (by simp only [execOp, Act.eval]; go_simp) rfl⟩
    | 15, hi =>
      cases (show some _ = some o from hi)
      have e25 : (f.tmps.getD 25 undef) = .pointer (some ⟨g, i * 4, none⟩) := depO (V := (VSf1 base r most g n c i z bm its cur sf)) hdep 14 25 (by kernel_rfl) (by kernel_rfl)
      clear hdep hsame hi hlate hfr hkeep
      exact .inl ⟨wanted_none rfl, showsO_pure hsn rfl (.pointer (some ⟨g, i * 4 + 3, none⟩)) (by simp only [execOp, Act.eval]; go_simp) rfl⟩
    | n + 16, hi => exact absurd hltm (by omega)
  intro o ho fr u1 own hsame hsn hla hall
  cases (show some _ = some o from ho)
  have q12 : fr.tmps.getD 12 undef = .pointer (some ⟨r, 0, none⟩) := finL (V := (VSf1 base r most g n c i z bm its cur sf)) hall 0 12 (by decide) rfl
  have q13 : fr.tmps.getD 13 undef = .pointer (some ⟨r, 0, none⟩) := finL (V := (VSf1 base r most g n c i z bm its cur sf)) hall 1 13 (by decide) rfl
  have q14 : fr.tmps.getD 14 undef = .pointer (some ⟨r, 2, none⟩) := finL (V := (VSf1 base r most g n c i z bm its cur sf)) hall 2 14 (by decide) rfl
  have q15 : fr.tmps.getD 15 undef = .slice (some ⟨g, 0, none⟩) n c := finL (V := (VSf1 base r most g n c i z bm its cur sf)) hall 3 15 (by decide) rfl
  have q16 : fr.tmps.getD 16 undef = .int .i64 (i : Int) := finL (V := (VSf1 base r most g n c i z bm its cur sf)) hall 4 16 (by decide) rfl
  have q17 : fr.tmps.getD 17 undef = .pointer (some ⟨r, 0, none⟩) := finL (V := (VSf1 base r most g n c i z bm its cur sf)) hall 5 17 (by decide) rfl
  have q18 : fr.tmps.getD 18 undef = .pointer (some ⟨r, 0, none⟩) := finL (V := (VSf1 base r most g n c i z bm its cur sf)) hall 6 18 (by decide) rfl
  have q19 : fr.tmps.getD 19 undef = .pointer (some ⟨r, 2, none⟩) := finL (V := (VSf1 base r most g n c i z bm its cur sf)) hall 7 19 (by decide) rfl
  have q20 : fr.tmps.getD 20 undef = .slice (some ⟨g, 0, none⟩) n c := finL (V := (VSf1 base r most g n c i z bm its cur sf)) hall 8 20 (by decide) rfl
  have q21 : fr.tmps.getD 21 undef = .int .i64 (i : Int) := finL (V := (VSf1 base r most g n c i z bm its cur sf)) hall 9 21 (by decide) rfl
  have q22 : fr.tmps.getD 22 undef = .int .i64 (z : Int) := finL (V := (VSf1 base r most g n c i z bm its cur sf)) hall 10 22 (by decide) rfl
  have q23 : fr.tmps.getD 23 undef = .pointer (some ⟨g, i * 4, none⟩) := finL (V := (VSf1 base r most g n c i z bm its cur sf)) hall 11 23 (by decide) rfl
  have q24 : fr.tmps.getD 24 undef = .pointer (some ⟨g, i * 4 + 2, none⟩) := finL (V := (VSf1 base r most g n c i z bm its cur sf)) hall 12 24 (by decide) rfl
  obtain ⟨o_13, m_13⟩ : OutV own u1 (g) 13 87 (cur.setIfInBounds (i * 4 + 2) (.int .i64 0)) := finLN (V := (VSf1 base r most g n c i z bm its cur sf)) hall 13 (by decide) rfl
  have q25 : fr.tmps.getD 25 undef = .pointer (some ⟨g, i * 4, none⟩) := finL (V := (VSf1 base r most g n c i z bm its cur sf)) hall 14 25 (by decide) rfl
  have q26 : fr.tmps.getD 26 undef = .pointer (some ⟨g, i * 4 + 3, none⟩) := finL (V := (VSf1 base r most g n c i z bm its cur sf)) hall 15 26 (by decide) rfl
  obtain rfl := frame_eq hsame [(12, .pointer (some ⟨r, 0, none⟩)), (13, .pointer (some ⟨r, 0, none⟩)), (14, .pointer (some ⟨r, 2, none⟩)), (15, .slice (some ⟨g, 0, none⟩) n c), (16, .int .i64 (i : Int)), (17, .pointer (some ⟨r, 0, none⟩)), (18, .pointer (some ⟨r, 0, none⟩)), (19, .pointer (some ⟨r, 2, none⟩)), (20, .slice (some ⟨g, 0, none⟩) n c), (21, .int .i64 (i : Int)), (22, .int .i64 (z : Int)), (23, .pointer (some ⟨g, i * 4, none⟩)), (24, .pointer (some ⟨g, i * 4 + 2, none⟩)), (25, .pointer (some ⟨g, i * 4, none⟩)), (26, .pointer (some ⟨g, i * 4 + 3, none⟩))] (by kernel_rfl) ⟨q12, q13, q14, q15, q16, q17, q18, q19, q20, q21, q22, q23, q24, q25, q26, trivial⟩
  clear hall hsame q12 q13 q14 q15 q16 q17 q18 q19 q20 q21 q22 q23 q24 q25 q26
  simp only [List.foldl, List.setIfInBounds_toArray, List.set_cons_succ, List.set_cons_zero]
  have hk6 := hsn.keepOne
  have hrow1 := H0.out.row.set (i * 4 + 2) (.int .i64 0) m_13
  rw [show (Value.int IntKind.i64 0) = .int .i64 ((0 : Nat) : Int) from rfl, icells_setNw H0.out.sz] at hrow1
  have H1 := H0.out.turnG hk6 hrow1 (setNw_len _ _ _) (SzI.setNw H0.out.sz _ _)
  have cc := H1.row.cell (icells_ol H1.sz (j := i) (by rw [← H1.nl]; exact HN.out))
  have ff := frozenC H1.row.hb (i * 4 + 3)
  have hk : Keep (fun j => j = g) u1 (u1.setCell ⟨g, i * 4 + 3, none⟩ (.int .i64 (z : Int))) := Keep.setCell u1 ⟨g, i * 4 + 3, none⟩ _
  have hrow := H1.row.setW (i * 4 + 3) (.int .i64 (z : Int))
  rw [icells_setOl H1.sz] at hrow
  have K2 := Bx.mk (hk6.trans hk (fun _ _ h => h))
  have H2 := Bx.mk (H1.turnG hk hrow (setOl_len _ _ _) (SzI.setOl H1.sz _ _))
  refine ⟨wanted_none rfl, last_skipS (w' := u1.setCell ⟨g, i * 4 + 3, none⟩ (.int .i64 (z : Int))) rfl (by simp only [execOp, Act.eval]; go_simp) ?_⟩
  clear cc ff hrow hk H1 hrow1 hk6 hsn hla ho m_13 o_13
  generalize u1.setCell ⟨g, i * 4 + 3, none⟩ (.int .i64 (z : Int)) = W2 at H2 K2 ⊢
  have c2 := er_cellAt H2.out.hb 2 _ rfl
  have cc := H2.out.row.cell (icells_nw H2.out.sz (j := z) (by rw [← H2.out.nl]; exact ZN.out))
  have ff := frozenC H2.out.row.hb (z * 4 + 2)
  have hk : Keep (fun j => j = g) W2 (W2.setCell ⟨g, z * 4 + 2, none⟩ (.int .i64 (i : Int))) := Keep.setCell W2 ⟨g, z * 4 + 2, none⟩ _
  have hrow := H2.out.row.setW (z * 4 + 2) (.int .i64 (i : Int))
  rw [icells_setNw H2.out.sz] at hrow
  have K3 := Bx.mk (K2.out.trans hk (fun _ _ h => h))
  have H3 := Bx.mk (H2.out.turnG hk hrow (setNw_len _ _ _) (SzI.setNw H2.out.sz _ _))
  have f3 : (z : Int) < (n : Int) := by have := ZN.out; omega
  clear hk hrow
  go_upto_region 3 with (fail)
  clear c2 cc ff f3 K2 H2
  generalize W2.setCell ⟨g, z * 4 + 2, none⟩ (.int .i64 (i : Int)) = W3 at H3 K3 ⊢
  have c2 := er_cellAt H3.out.hb 2 _ rfl
  have cc := H3.out.row.cell (icells_ol H3.out.sz (j := 0) (by rw [← H3.out.nl]; exact PN.out))
  have ff := frozenC H3.out.row.hb (0 * 4 + 3)
  have hk : Keep (fun j => j = g) W3 (W3.setCell ⟨g, 0 * 4 + 3, none⟩ (.int .i64 (i : Int))) := Keep.setCell W3 ⟨g, 0 * 4 + 3, none⟩ _
  have hrow := H3.out.row.setW (0 * 4 + 3) (.int .i64 (i : Int))
  rw [icells_setOl H3.out.sz] at hrow
  have K4 := Bx.mk (K3.out.trans hk (fun _ _ h => h))
  have H4 := Bx.mk (H3.out.turnG hk hrow (setOl_len _ _ _) (SzI.setOl H3.out.sz _ _))
  have f3 : (0 : Int) < (n : Int) := by have := PN.out; omega
  clear hk hrow
  rw [Nat.zero_mul, Nat.zero_add] at cc ff
  skip
  have hz := H4.out
  have k4 := K4.out
  rw [Nat.zero_mul, Nat.zero_add] at hz k4
  have HZ := Bx.mk hz; have KZ := Bx.mk k4
  have f0 : (0 : Int) < (n : Int) := by have := PN.out; omega
  clear H4 K4 hz k4 f3
  go_wp2_with fail
  go_end0
  exact ⟨rfl, _, by unfold firstI; rw [← EZ.out]; exact HZ.out, KZ.out⟩
end Go.Proofs.YtdepmjgibenejaaDoor
