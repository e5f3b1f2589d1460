/- Caches of string, int: remove, Drop, Len. -/
import Derived.Test.YtdepmjgibenejaaDoorCaSB
import Derived.Test.YtdepmjgibenejaaDoorCaQ
import Derived.Test.YtdepmjgibenejaaDoorCaM
import Derived.Maps.AppendAt
namespace Go.Proofs.YtdepmjgibenejaaDoor
set_option maxRecDepth 100000
open Go.RowKit Go.Maps
theorem builtS0 : Tryd.prog.built 87 [] = some zeroS := by kernel_rfl
theorem zeroS_cells : zeroS = (icell kcS vcS ⟨⟨#[]⟩, 0, 0, 0⟩).toArray := rfl
theorem intOne (i : Nat) : (Value.int .i64 (i : Int)).oneCell' = true := rfl
theorem infoInt : (Tryd.prog.info? 3).map (fun i => (i.zero, i.size, i.bytes)) = some (some (.int .i64 0), 1, 8) := by kernel_rfl
/-- the block of the free places may turn -/
theorem CaMS.free {base : Nat} {w w' : World} {r bm most : Nat} {its : List (CaI ByteArray Int)} {g n c : Nat} {cur : Array Value} {fr fr' : List Nat} {sf sf' : Value} {D : DataW Unit} (h : CaMS base w r bm most its g n c cur fr sf D) (hb : w'.heap[r]? = some (.cells #[.int .i64 (most : Int), .map (some bm), .slice (some ⟨g, 0, none⟩) n c, sf'] 54 (0, 0)))
    (k : Keep (fun j => j = r ∨ sf.ownBlock = some j) w w') (ho : w'.ownsRow base 3 1 sf' fr'.length (fr'.map fun (j : Nat) => .int .i64 (j : Int))) : CaMS base w' r bm most its g n c cur fr' sf' D := by
  obtain ⟨a1, a2, a3, a4⟩ := h.apart
  obtain ⟨es, clock, hm, hF⟩ := h.map
  refine ⟨hb, h.br, h.bb, h.nl, h.row.kept (k.block g (Array.getElem?_eq_some_iff.1 h.row.hb).1 ?_), ho, ⟨es, clock, (k.block bm (Array.getElem?_eq_some_iff.1 hm).1 ?_).trans hm, hF⟩, h.sz⟩
  · rintro (e | e)
    · exact a1 e.symm
    · exact (a4 _ e).1 rfl
  · rintro (e | e)
    · exact a3 e
    · exact (a4 _ e).2.2 rfl
/-- its map turned -/
theorem CaMS.turnM {base : Nat} {w w' : World} {r bm most : Nat} {its : List (CaI ByteArray Int)} {g n c : Nat} {cur : Array Value} {fr : List Nat} {sf : Value} {D D' : DataW Unit} (h : CaMS base w r bm most its g n c cur fr sf D) (k : w.mapTurned w' bm) {q : Nat} (hm : w'.ownsMap Tryd.prog 9 (plainElem Tryd.prog 3) bm q D') : CaMS base w' r bm most its g n c cur fr sf D' := by
  obtain ⟨a1, a2, a3, a4⟩ := h.apart
  have k := mapTurned_keep k
  exact ⟨(k.block r (Array.getElem?_eq_some_iff.1 h.hb).1 (Ne.symm a3)).trans h.hb, h.br, h.bb, h.nl, h.row.kept (k.block g (Array.getElem?_eq_some_iff.1 h.row.hb).1 (Ne.symm a2)), ownsRow_keep' h.fre fun j hj => k.block j (ownsRow_lt h.fre j hj) (a4 j hj).2.2, ownsMap_tight hm, h.sz⟩
/-- what stands of a cache's blocks -/
def CaB (r bm g : Nat) (sf : Value) (k : Nat) : Prop := k = r ∨ k = bm ∨ k = g ∨ sf.ownBlock = some k
def VSr1 (r bm _most g n c i : Nat) (_sf : Value) (x : ByteArray × Int) (oi : Nat) (v : Value) (_own : Nat → Option Nat) (_w : World) : Prop :=
  match oi with
  | 0 => v = .pointer (some ⟨r, 0, none⟩)
  | 1 => v = .pointer (some ⟨r, 0, none⟩)
  | 2 => v = .pointer (some ⟨r, 1, none⟩)
  | 3 => v = .map (some bm)
  | 4 => v = .pointer (some ⟨r, 0, none⟩)
  | 5 => v = .pointer (some ⟨r, 0, none⟩)
  | 6 => v = .pointer (some ⟨r, 2, none⟩)
  | 7 => v = .slice (some ⟨g, 0, none⟩) n c
  | 8 => v = .int .i64 (i : Int)
  | 9 => v = .pointer (some ⟨g, i * 4, none⟩)
  | 10 => v = .pointer (some ⟨g, i * 4, none⟩)
  | 11 => v = .string x.1
  | _ => True
def VSr1mk : Nat → Option Nat := fun _ => none
theorem VSr1_mono (r bm most g n c i : Nat) (sf : Value) (x : ByteArray × Int) (oi oj : Nat) (v : Value) (own : Nat → Option Nat) (w : World) (own' : Nat → Option Nat) (w' : World) (hij : oi ≠ oj)   (h : VSr1 r bm most g n c i sf x oj v own w) (_r1 : Rel VSr1mk oi own w own' w') : VSr1 r bm most g n c i sf x oj v own' w' := by
  unfold VSr1 at h ⊢
  split at h
  · exact h
  · exact h
  · exact h
  · exact h
  · exact h
  · exact h
  · exact h
  · exact h
  · exact h
  · exact h
  · exact h
  · exact h
  · trivial

set_option maxHeartbeats 1600000 in
theorem remove_anyS (base : Nat) (w : World) (r bm most : Nat) (its : List (CaI ByteArray Int)) (g n c : Nat) (cur : Array Value) (fr : List Nat) (sf : Value) (D : DataW Unit) (m : CaMS base w r bm most its g n c cur fr sf D) (o : List Nat) (es : List (ByteArray × Int)) (hmm : most ≤ 1024) (v : CaV klS kwS most its o fr D es) (t : Nat) (ht : t < es.length) (hto : t < o.length) (hbase : base ≤ w.heap.size) :
    Calls Tryd.prog 29 #[.pointer (some ⟨r, 0, none⟩), .int .i64 ((o[t] : Nat) : Int)] w fun e w' => e = .returned (.tuple #[]) ∧ ∃ cur' sf', CaMS base w' r bm most ((outI its o[t]).set o[t] ⟨⟨#[]⟩, 0, 0, 0⟩) g n c cur' (fr ++ [o[t]]) sf' (D.del (klS es[t].1)) ∧
      CaV klS kwS most ((outI its o[t]).set o[t] ⟨⟨#[]⟩, 0, 0, 0⟩) (o.eraseIdx t) (fr ++ [o[t]]) (D.del (klS es[t].1)) (es.eraseIdx t) ∧ Keep (CaB r bm g sf) w w' ∧ ∀ k, sf'.ownBlock = some k → sf.ownBlock = some k ∨ w.heap.size ≤ k := by
  obtain ⟨l1, l2, l3⟩ := v.lt hto
  have hkt := v.kvt ht
  have hkw := v.kwf _ (List.getElem_mem ht)
  have hv2 := v.remove injS ht hto ⟨⟨#[]⟩, 0, 0, 0⟩
  obtain ⟨x, hx⟩ : ∃ x, x = es[t] := ⟨_, rfl⟩
  rw [← hx] at hv2 hkt hkw ⊢
  obtain ⟨i, hi⟩ : ∃ i, i = o[t] := ⟨_, rfl⟩
  rw [← hi] at hv2 hkt l1 l2 l3 ⊢
  have FRL : Bx (fr.length ≤ 1024) := ⟨by have := v.tot; have h1 := v.bnd; omega⟩
  have L1 := Bx.mk l1; have L2 := Bx.mk l2; have L3 := Bx.mk l3; have V2 := Bx.mk hv2; have KT := Bx.mk hkt; have HK := Bx.mk (keyS hkw); have M0 := Bx.mk m; have HBS := Bx.mk hbase
  clear m v hx hi ht hto hkt hkw l1 l2 l3 hv2 hbase
  go_enter Tryd.func29, Tryd.ntmps29
  go_wp2_with fail
  refine (out_anyS base w r bm most its g n c cur fr sf D M0.out i L1.out L2.out L3.out).mono ?_
  rintro e W1 ⟨rfl, cur1, m1, k1⟩
  have M1 := Bx.mk m1; have K1 := Bx.mk k1
  have XR := Bx.mk m1.hb; have GL := Bx.mk (Array.getElem?_eq_some_iff.1 m1.row.hb).1
  have IN := Bx.mk (show i < n by rw [m1.nl, outI_len]; exact L1.out)
  obtain ⟨-, ck⟩ := m1.value (i := i) (x := x) (by rw [outI_kv]; exact KT.out)
  have CK := Bx.mk ck
  clear m1 k1 ck
  go_upto_region 1 with (fail)
  refine wp_region_last (n := 36) (m := 12) VSr1mk (fun _ => none) (VSr1 r bm most g n c i sf x) (by kernel_rfl) (by kernel_rfl) rfl rfl (by kernel_rfl) (fun _ _ => rfl) (fun j i hj _ => by cases hj) ?_ ?_ ?_
  · exact fun oi oj v own w own' w' hij _ h r1 => VSr1_mono r bm most g n c i sf x oi oj v own w own' w' hij h r1
  · intro oi o hltm hi f u own hsame hsn hfr hlate hkeep8 hdep
    have hkeep := hkeep8 _ (.inl rfl)
    have hb6 := hsn.below (B := W1.heap.size) (fun _ _ => rfl) (Nat.le_refl _)
    match oi, hi with
    | 0, hi =>
      cases (show some _ = some o from hi)
      have e0 : f.tmps.getD 0 undef = .pointer (some ⟨r, 0, none⟩) := hsame.slot 0 (fun i o h => invB2_not 0 (by kernel_rfl) h)
      clear hdep hsame hi hlate hfr hkeep
      exact .inl ⟨wanted_none rfl, showsO_move hsn rfl _ rfl e0⟩
    | 1, hi =>
      cases (show some _ = some o from hi)
      have e7 : (f.tmps.getD 7 undef) = .pointer (some ⟨r, 0, none⟩) := depO (V := (VSr1 r bm most g n c i sf x)) hdep 0 7 (by kernel_rfl) (by kernel_rfl)
      clear hdep hsame hi hlate hfr hkeep
      exact .inl ⟨wanted_none rfl, showsO_pure hsn rfl (.pointer (some ⟨r, 0, none⟩)) (by simp only [execOp, Act.eval]; go_simp) rfl⟩
    | 2, hi =>
      cases (show some _ = some o from hi)
      have e8 : (f.tmps.getD 8 undef) = .pointer (some ⟨r, 0, none⟩) := depO (V := (VSr1 r bm most g n c i sf x)) hdep 1 8 (by kernel_rfl) (by kernel_rfl)
      clear hdep hsame hi hlate hfr hkeep
      exact .inl ⟨wanted_none rfl, showsO_pure hsn rfl (.pointer (some ⟨r, 1, none⟩)) (by simp only [execOp, Act.eval]; go_simp) rfl⟩
    | 3, hi =>
      cases (show some _ = some o from hi)
      have e9 : (f.tmps.getD 9 undef) = .pointer (some ⟨r, 1, none⟩) := depO (V := (VSr1 r bm most g n c i sf x)) hdep 2 9 (by kernel_rfl) (by kernel_rfl)
      clear hdep hsame hi hlate hfr hkeep
      have c10 := er_cellAt ((hb6.block _ (Array.getElem?_eq_some_iff.1 XR.out).1).trans XR.out) (1) _ rfl
      exact .inl ⟨wanted_none rfl, showsO_pure hsn rfl (.map (some bm)) (by simp only [execOp, Act.eval]; go_simp) rfl⟩
    | 4, hi =>
      cases (show some _ = some o from hi)
      have e0 : f.tmps.getD 0 undef = .pointer (some ⟨r, 0, none⟩) := hsame.slot 0 (fun i o h => invB2_not 0 (by kernel_rfl) h)
      clear hdep hsame hi hlate hfr hkeep
      exact .inl ⟨wanted_none rfl, showsO_move hsn rfl _ rfl e0⟩
    | 5, hi =>
      cases (show some _ = some o from hi)
      have e11 : (f.tmps.getD 11 undef) = .pointer (some ⟨r, 0, none⟩) := depO (V := (VSr1 r bm most g n c i sf x)) hdep 4 11 (by kernel_rfl) (by kernel_rfl)
      clear hdep hsame hi hlate hfr hkeep
      exact .inl ⟨wanted_none rfl, showsO_pure hsn rfl (.pointer (some ⟨r, 0, none⟩)) (by simp only [execOp, Act.eval]; go_simp) rfl⟩
    | 6, hi =>
      cases (show some _ = some o from hi)
      have e12 : (f.tmps.getD 12 undef) = .pointer (some ⟨r, 0, none⟩) := depO (V := (VSr1 r bm most g n c i sf x)) hdep 5 12 (by kernel_rfl) (by kernel_rfl)
      clear hdep hsame hi hlate hfr hkeep
      exact .inl ⟨wanted_none rfl, showsO_pure hsn rfl (.pointer (some ⟨r, 2, none⟩)) (by simp only [execOp, Act.eval]; go_simp) rfl⟩
    | 7, hi =>
      cases (show some _ = some o from hi)
      have e13 : (f.tmps.getD 13 undef) = .pointer (some ⟨r, 2, none⟩) := depO (V := (VSr1 r bm most g n c i sf x)) hdep 6 13 (by kernel_rfl) (by kernel_rfl)
      clear hdep hsame hi hlate hfr hkeep
      have c14 := er_cellAt ((hb6.block _ (Array.getElem?_eq_some_iff.1 XR.out).1).trans XR.out) (2) _ rfl
      exact .inl ⟨wanted_none rfl, showsO_pure hsn rfl (.slice (some ⟨g, 0, none⟩) n c) (by simp only [execOp, Act.eval]; go_simp) rfl⟩
    | 8, hi =>
      cases (show some _ = some o from hi)
      have e1 : f.tmps.getD 1 undef = .int .i64 (i : Int) := hsame.slot 1 (fun i o h => invB2_not 1 (by kernel_rfl) h)
      clear hdep hsame hi hlate hfr hkeep
      exact .inl ⟨wanted_none rfl, showsO_move hsn rfl _ rfl e1⟩
    | 9, hi =>
      cases (show some _ = some o from hi)
      have e14 : (f.tmps.getD 14 undef) = .slice (some ⟨g, 0, none⟩) n c := depO (V := (VSr1 r bm most g n c i sf x)) hdep 7 14 (by kernel_rfl) (by kernel_rfl)
      have e15 : (f.tmps.getD 15 undef) = .int .i64 (i : Int) := depO (V := (VSr1 r bm most g n c i sf x)) hdep 8 15 (by kernel_rfl) (by kernel_rfl)
      clear hdep hsame hi hlate hfr hkeep
      have f2 : ¬ (n : Int) ≤ (i : Int) := by have := IN.out; omega
      have f3 : (i : Int) < (n : Int) := by have := IN.out; omega
      exact .inl ⟨wanted_none rfl, showsO_pure hsn rfl (.pointer (some ⟨g, i * 4, none⟩)) (by simp only [execOp, Act.eval]; go_simp) rfl⟩
    | 10, hi =>
      cases (show some _ = some o from hi)
      have e16 : (f.tmps.getD 16 undef) = .pointer (some ⟨g, i * 4, none⟩) := depO (V := (VSr1 r bm most g n c i sf x)) hdep 9 16 (by kernel_rfl) (by kernel_rfl)
      clear hdep hsame hi hlate hfr hkeep
      exact .inl ⟨wanted_none rfl, showsO_pure hsn rfl (.pointer (some ⟨g, i * 4, none⟩)) (by simp only [execOp, Act.eval]; go_simp) rfl⟩
    | 11, hi =>
      cases (show some _ = some o from hi)
      have e17 : (f.tmps.getD 17 undef) = .pointer (some ⟨g, i * 4, none⟩) := depO (V := (VSr1 r bm most g n c i sf x)) hdep 10 17 (by kernel_rfl) (by kernel_rfl)
      clear hdep hsame hi hlate hfr hkeep
      have c18 := (hb6.cell (p := ⟨g, i * 4, none⟩) GL.out).trans CK.out
      exact .inl ⟨wanted_none rfl, showsO_pure hsn rfl (.string x.1) (by simp only [execOp, Act.eval]; go_simp) rfl⟩
    | n + 12, hi => exact absurd hltm (by omega)
  intro o ho fr u1 own hsame hsn hla hall
  cases (show some _ = some o from ho)
  have q7 : fr.tmps.getD 7 undef = .pointer (some ⟨r, 0, none⟩) := finL (V := (VSr1 r bm most g n c i sf x)) hall 0 7 (by decide) rfl
  have q8 : fr.tmps.getD 8 undef = .pointer (some ⟨r, 0, none⟩) := finL (V := (VSr1 r bm most g n c i sf x)) hall 1 8 (by decide) rfl
  have q9 : fr.tmps.getD 9 undef = .pointer (some ⟨r, 1, none⟩) := finL (V := (VSr1 r bm most g n c i sf x)) hall 2 9 (by decide) rfl
  have q10 : fr.tmps.getD 10 undef = .map (some bm) := finL (V := (VSr1 r bm most g n c i sf x)) hall 3 10 (by decide) rfl
  have q11 : fr.tmps.getD 11 undef = .pointer (some ⟨r, 0, none⟩) := finL (V := (VSr1 r bm most g n c i sf x)) hall 4 11 (by decide) rfl
  have q12 : fr.tmps.getD 12 undef = .pointer (some ⟨r, 0, none⟩) := finL (V := (VSr1 r bm most g n c i sf x)) hall 5 12 (by decide) rfl
  have q13 : fr.tmps.getD 13 undef = .pointer (some ⟨r, 2, none⟩) := finL (V := (VSr1 r bm most g n c i sf x)) hall 6 13 (by decide) rfl
  have q14 : fr.tmps.getD 14 undef = .slice (some ⟨g, 0, none⟩) n c := finL (V := (VSr1 r bm most g n c i sf x)) hall 7 14 (by decide) rfl
  have q15 : fr.tmps.getD 15 undef = .int .i64 (i : Int) := finL (V := (VSr1 r bm most g n c i sf x)) hall 8 15 (by decide) rfl
  have q16 : fr.tmps.getD 16 undef = .pointer (some ⟨g, i * 4, none⟩) := finL (V := (VSr1 r bm most g n c i sf x)) hall 9 16 (by decide) rfl
  have q17 : fr.tmps.getD 17 undef = .pointer (some ⟨g, i * 4, none⟩) := finL (V := (VSr1 r bm most g n c i sf x)) hall 10 17 (by decide) rfl
  have q18 : fr.tmps.getD 18 undef = .string x.1 := finL (V := (VSr1 r bm most g n c i sf x)) hall 11 18 (by decide) rfl
  obtain rfl := frame_eq hsame [(7, .pointer (some ⟨r, 0, none⟩)), (8, .pointer (some ⟨r, 0, none⟩)), (9, .pointer (some ⟨r, 1, none⟩)), (10, .map (some bm)), (11, .pointer (some ⟨r, 0, none⟩)), (12, .pointer (some ⟨r, 0, none⟩)), (13, .pointer (some ⟨r, 2, none⟩)), (14, .slice (some ⟨g, 0, none⟩) n c), (15, .int .i64 (i : Int)), (16, .pointer (some ⟨g, i * 4, none⟩)), (17, .pointer (some ⟨g, i * 4, none⟩)), (18, .string x.1)] (by kernel_rfl) ⟨q7, q8, q9, q10, q11, q12, q13, q14, q15, q16, q17, q18, trivial⟩
  clear hall hsame q7 q8 q9 q10 q11 q12 q13 q14 q15 q16 q17 q18
  simp only [List.foldl, List.setIfInBounds_toArray, List.set_cons_succ, List.set_cons_zero]
  have hb := hsn.below (B := W1.heap.size) (fun _ _ => rfl) (Nat.le_refl _)
  have m2 := M1.out.below hb
  obtain ⟨w3, hrun, r1, r2⟩ := m2.map.drop lawS Tryd.underlying50 HK.out (show TypeId from _)
  refine ⟨wanted_none rfl, last_delete (.tmp 10) (.tmp 18) 50 9 rfl rfl (.map (some bm)) (.string x.1) rfl rfl hrun ?_⟩
  have M3 := Bx.mk (m2.turnM r2 r1)
  have K3 := Bx.mk ((K1.out.mono (S' := CaB r bm g sf) (fun j _ h => .inr (.inr (.inl h)))).trans (Keep.of_below hb (CaB r bm g sf)) (fun _ _ h => h))
  have K4 := Bx.mk (K3.out.trans ((mapTurned_keep r2).mono (S' := CaB r bm g sf) (fun j _ h => .inr (.inl h))) (fun _ _ h => h))
  clear m2 hrun r1 r2 hb hsn hla ho XR K3 M1
  have c2 := er_cellAt M3.out.hb 2 _ rfl
  have f3 : (i : Int) < (n : Int) := by have := IN.out; omega
  have THR := Bx.mk (M3.out.row.there (o := i * 4) (m := 4) (by have := IN.out; omega))
  go_upto_region 3 with ((first | (guard_target =~ wpList _ _ _ (⟨some 24, _, _, _, _, _⟩ :: _) _ _; refine wpList_build_c (by simp [Region.wanted]) 87 #[] rfl zeroS (by simp only [List.map_toArray, List.map_nil]; exact builtS0) ?_) | (guard_target =~ wpList _ _ _ (⟨none, Go.Op.store _ _ _, _, _, _, _⟩ :: _) _ _; refine wpList_store_mid rfl 87 (.tmp 25) (.tmp 24) rfl g (i * 4) zeroS rfl rfl (show w3.there g (i * 4) zeroS.size from THR.out) (by kernel_rfl) (by kernel_rfl) ?_)))
  simp only [Act.put]
  have c4 := M3.out.row.setCells (zeroS.toList) (i * 4)
  obtain ⟨cur4, hrow⟩ := c4
  have hk5 := keep_setCells g zeroS.toList (i * 4) w3
  rw [zeroS_cells, List.toList_toArray, show icells kcS vcS (outI its i) = (outI its i).flatMap (icell kcS vcS) from rfl, setList_flat _ 4 _ (by rfl) _ i (by rw [outI_len]; exact L1.out) M3.out.sz.len] at hrow
  have M5 := Bx.mk (M3.out.turnG hk5 (its' := (outI its i).set i ⟨⟨#[]⟩, 0, 0, 0⟩) hrow (by rw [List.length_set]) (M3.out.sz.set i _ (by decide)))
  have K5 := Bx.mk (K4.out.trans (hk5.mono (S' := CaB r bm g sf) (fun j _ h => .inr (.inr (.inl h)))) (fun _ _ h => h))
  clear hk5 hrow M3 K4 THR f3 c2
  rw [zeroS_cells, List.toList_toArray] at M5 K5 ⊢
  generalize w3.setCells g (i * 4) (icell kcS vcS ⟨⟨#[]⟩, 0, 0, 0⟩) = w5 at M5 K5 ⊢
  have c3 := er_cellAt M5.out.hb 3 _ rfl
  obtain ⟨i0, hi, hz0, hz1, hz2⟩ := info_parts infoInt
  have BS : Bx (base ≤ w5.heap.size) := ⟨Nat.le_trans HBS.out K5.out.size⟩
  go_wp2_with (at_builtin; refine wpList_append_own_at _ rfl _ _ 52 rfl base 3 i0 (.int .i64 0) 1 8 Tryd.underlying52 hi hz0 hz1 hz2 rfl (by decide) sf fr.length (fr.map fun (j : Nat) => .int .i64 (j : Int)) rfl (M5.out.fre.alloc _) ⟨w5.heap.size, 0, none⟩ 1 1 [.int .i64 (i : Int)] rfl rfl (cell_one_new _ _ _) (ints_oneCell .i64 [(i : Int)]) (by have := FRL.out; unfold maxLen; omega) (by have := FRL.out; omega) (by have := BS.out; simp; omega) ?_; intro sf' w6 hown hgrow _ hloc; obtain ⟨a6, c6, rfl⟩ := own_shapeC hown; have kk := (Keep.of_below (er_al (Below.refl w5.heap.size w5) (.cells #[.int .i64 (i : Int)] 3)) (fun j => sf.ownBlock = some j)).trans (Keep.of_grown hgrow) (fun _ _ h => h); have hr6 := (kk.block r (Array.getElem?_eq_some_iff.1 M5.out.hb).1 (fun e => (M5.out.apart.2.2.2 r e).2.1 rfl)).trans M5.out.hb; have c36 := er_cellAt hr6 3 _ rfl; have f36 := frozenC hr6 3; have HR6 := Bx.mk hr6; have KK := Bx.mk kk; have HO := Bx.mk hown; have HL := Bx.mk hloc; clear hr6 kk hown hloc hgrow c3)
  go_end0
  obtain ⟨sf', hsf⟩ : ∃ sf', sf' = Value.slice a6 (fr.length + 1) c6 := ⟨_, rfl⟩
  rw [← hsf] at HO HL ⊢
  have k7 : Keep (fun j => j = r ∨ sf.ownBlock = some j) w5 (w6.setCell ⟨r, 3, none⟩ sf') := (KK.out.mono (fun j _ h => .inr h)).trans ((Keep.setCell w6 ⟨r, 3, none⟩ sf').mono (S' := fun j => j = r ∨ sf.ownBlock = some j) (fun j _ h => .inl h)) (fun _ _ h => h)
  have hr7 : (w6.setCell ⟨r, 3, none⟩ sf').heap[r]? = some (.cells #[.int .i64 (most : Int), .map (some bm), .slice (some ⟨g, 0, none⟩) n c, sf'] 54 (0, 0)) := by simp [World.setCell, Array.getElem?_modify, HR6.out]
  have ho := ownsRow_setCell_ne HO.out ⟨r, 3, none⟩ sf' (fun k hk e => rel_blkS HO.out HR6.out (by decide) k hk e)
  have ho2 : (w6.setCell ⟨r, 3, none⟩ sf').ownsRow base 3 1 sf' (fr ++ [i]).length ((fr ++ [i]).map fun (j : Nat) => .int .i64 (j : Int)) := by
    rw [List.length_append, List.map_append]; exact ho
  refine ⟨rfl, _, sf', M5.out.free hr7 k7 ho2, V2.out, K5.out.trans (k7.mono (S' := CaB r bm g sf) (fun j _ h => by rcases h with h | h; exact .inl h; exact .inr (.inr (.inr h)))) (fun _ _ h => h), fun k hk => ?_⟩
  rcases HL.out with h | h
  · exact .inl (h ▸ hk)
  · rw [h] at hk
    injection hk with hk
    have h1 := K5.out.size
    have h2 : w5.heap.size ≤ k := by rw [← hk]; simp
    exact .inr (by omega)
end Go.Proofs.YtdepmjgibenejaaDoor
