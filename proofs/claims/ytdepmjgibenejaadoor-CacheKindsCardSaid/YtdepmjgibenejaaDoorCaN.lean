/- Plain laws of a list that is linked both ways through places of a row (chapter 13's order). -/
import Derived.WalkKit
namespace Go.Proofs.YtdepmjgibenejaaDoor
/-- each place leads to the next one, and back: from a through l to z -/
def Lk (nw ol : Nat → Nat) : Nat → List Nat → Nat → Prop
  | a, [], z => ol a = z ∧ nw z = a
  | a, b :: l, z => (ol a = b ∧ nw b = a) ∧ Lk nw ol b l z
def upN (f : Nat → Nat) (i v : Nat) : Nat → Nat := fun k => if k = i then v else f k
theorem upN_at (f : Nat → Nat) (i v : Nat) : upN f i v i = v := if_pos rfl
theorem upN_ne {f : Nat → Nat} {i v k : Nat} (h : k ≠ i) : upN f i v k = f k := if_neg h
theorem lk_split {nw ol : Nat → Nat} {i z : Nat} {s : List Nat} : ∀ {p : List Nat} {a : Nat}, Lk nw ol a (p ++ i :: s) z ↔ Lk nw ol a p i ∧ Lk nw ol i s z
  | [], _ => Iff.rfl
  | b :: p, a => by
    show (ol a = b ∧ nw b = a) ∧ Lk nw ol b (p ++ i :: s) z ↔ ((ol a = b ∧ nw b = a) ∧ Lk nw ol b p i) ∧ _
    rw [lk_split (p := p) (a := b)]
    exact ⟨fun ⟨h1, h2, h3⟩ => ⟨⟨h1, h2⟩, h3⟩, fun ⟨⟨h1, h2⟩, h3⟩ => ⟨h1, h2, h3⟩⟩
theorem lk_congr {nw ol nw' ol' : Nat → Nat} {z : Nat} : ∀ {l : List Nat} {a : Nat}, Lk nw ol a l z → (∀ x, x = a ∨ x ∈ l → ol' x = ol x) → (∀ x, x = z ∨ x ∈ l → nw' x = nw x) → Lk nw' ol' a l z
  | [], a, h, h1, h2 => ⟨(h1 a (.inl rfl)).trans h.1, (h2 z (.inl rfl)).trans h.2⟩
  | b :: l, a, h, h1, h2 => ⟨⟨(h1 a (.inl rfl)).trans h.1.1, (h2 b (.inr (by simp))).trans h.1.2⟩,
      lk_congr h.2 (fun x hx => h1 x (.inr (by rcases hx with rfl | hx <;> simp [*]))) (fun x hx => h2 x (by rcases hx with rfl | hx; exact .inl rfl; exact .inr (by simp [hx])))⟩
theorem lk_head {nw ol : Nat → Nat} {a z : Nat} {s : List Nat} (h : Lk nw ol a s z) : ol a = s.headD z := by
  cases s with
  | nil => exact h.1
  | cons b s => exact h.1.1
theorem lk_last {nw ol : Nat → Nat} {z : Nat} : ∀ {p : List Nat} {a : Nat}, Lk nw ol a p z → nw z = p.getLastD a
  | [], _, h => h.2
  | b :: p, a, h => by rw [lk_last h.2]; cases p <;> simp [List.getLastD]
/-- a bridge over the place i -/
theorem lk_bridge {nw ol : Nat → Nat} {a i z e : Nat} {s : List Nat} (h : Lk nw ol i s z) (he : e = s.headD z) (ha : a ∉ s) (hn : s.Nodup) (hz : z ∉ s) : Lk (upN nw e a) (upN ol a e) a s z := by
  subst he
  cases s with
  | nil => exact ⟨upN_at _ _ _, upN_at _ _ _⟩
  | cons b s =>
    refine ⟨⟨upN_at _ _ _, upN_at _ _ _⟩, lk_congr h.2 (fun x hx => upN_ne (fun e => ha (e ▸ List.mem_cons.2 hx))) (fun x hx => upN_ne (fun (e : x = b) => ?_))⟩
    rcases hx with hx | hx
    · exact hz (List.mem_cons.2 (.inl (hx.symm.trans e)))
    · exact (List.nodup_cons.1 hn).1 (e ▸ hx)
/-- A PLACE LEAVES THE ORDER -/
theorem lk_out {nw ol : Nat → Nat} {a i z : Nat} {p s : List Nat} (h : Lk nw ol a (p ++ i :: s) z) (hn : (p ++ i :: s).Nodup) (ha : a ∉ p ++ i :: s) (hz : z ∉ p ++ i :: s) :
    Lk (upN nw (ol i) (nw i)) (upN ol (nw i) (ol i)) a (p ++ s) z := by
  obtain ⟨h1, h2⟩ := lk_split.1 h
  have e1 := lk_head h2
  have e2 := lk_last h1
  rw [List.nodup_append] at hn
  obtain ⟨n1, n2, n3⟩ := hn
  have n4 := (List.nodup_cons.1 n2).2
  have hzs : z ∉ s := fun hx => hz (by simp [hx])
  rcases List.eq_nil_or_concat p with rfl | ⟨q, y, rfl⟩
  · have e3 : nw i = a := e2
    rw [e3]
    exact lk_bridge h2 e1 (fun hx => ha (List.mem_cons_of_mem _ hx)) n4 hzs
  · rw [List.concat_eq_append] at *
    have e3 : nw i = y := by rw [e2]; simp
    rw [e3, List.append_assoc]
    refine lk_split.2 ⟨lk_congr (lk_split.1 h1).1 (fun x hx => upN_ne (fun e => ?_)) (fun x hx => upN_ne (fun e => ?_)), lk_bridge h2 e1 (fun hx => n3 y (by simp) y (List.mem_cons_of_mem _ hx) rfl) n4 hzs⟩
    · rcases hx with hx | hx
      · exact ha (List.mem_append.2 (.inl (by rw [← hx, e]; simp)))
      · rw [List.nodup_append] at n1
        exact n1.2.2 x hx y (by simp) e
    · rw [e1] at e
      have hm : x = z ∨ x ∈ s := by
        cases s with
        | nil => exact .inl e
        | cons b s => exact .inr (by rw [e]; exact List.mem_cons_self)
      have hx' : x ∈ q ++ [y] := by
        rcases hx with hx | hx
        · rw [hx]; simp
        · exact List.mem_append.2 (.inl hx)
      rcases hm with hm | hm
      · exact hz (List.mem_append.2 (.inl (hm ▸ hx')))
      · exact n3 x hx' x (List.mem_cons_of_mem _ hm) rfl
/-- A PLACE IS THE FIRST ONE -/
theorem lk_first {nw ol : Nat → Nat} {a i : Nat} {o : List Nat} (h : Lk nw ol a o a) (hn : o.Nodup) (ha : a ∉ o) (hi : i ∉ o) (hia : i ≠ a) :
    Lk (upN (upN nw i a) (ol a) i) (upN (upN ol i (ol a)) a i) a (i :: o) a := by
  have e1 := lk_head h
  have hne : i ≠ ol a := by
    rw [e1]
    cases o with
    | nil => exact hia
    | cons b o => intro e; exact hi (List.mem_cons.2 (.inl e))
  refine ⟨⟨upN_at _ _ _, (upN_ne hne).trans (upN_at _ _ _)⟩, ?_⟩
  cases o with
  | nil =>
    have e2 : ol a = a := e1
    exact ⟨(upN_ne hia).trans ((upN_at _ _ _).trans e2), by rw [e2]; exact upN_at _ _ _⟩
  | cons b o =>
    have e2 : ol a = b := e1
    rw [e2]
    refine ⟨⟨(upN_ne hia).trans (upN_at _ _ _), upN_at _ _ _⟩, lk_congr h.2 (fun x hx => ?_) (fun x hx => ?_)⟩
    · rw [upN_ne (fun (e : x = a) => ha (e ▸ List.mem_cons.2 hx)), upN_ne (fun (e : x = i) => hi (e ▸ List.mem_cons.2 hx))]
    · have h1 : x ≠ b := by
        intro e
        rcases hx with hx | hx
        · exact ha (List.mem_cons.2 (.inl (hx.symm.trans e)))
        · exact (List.nodup_cons.1 hn).1 (e ▸ hx)
      rw [upN_ne h1, upN_ne (fun e => by
        rcases hx with hx | hx
        · exact hia (e.symm.trans hx)
        · exact hi (e ▸ List.mem_cons_of_mem _ hx))]
/-- an item: its key and value, the places of its neighbours -/
structure CaI (κ ν : Type) where
  k : κ
  v : ν
  nw : Nat
  ol : Nat
section
variable {κ ν : Type}
def nwF (l : List (CaI κ ν)) (j : Nat) : Nat := (l[j]?.map (·.nw)).getD 0
def olF (l : List (CaI κ ν)) (j : Nat) : Nat := (l[j]?.map (·.ol)).getD 0
def kvF (l : List (CaI κ ν)) (j : Nat) : Option (κ × ν) := l[j]?.map fun x => (x.k, x.v)
def setNw (l : List (CaI κ ν)) (j a : Nat) : List (CaI κ ν) := l.modify j fun x => { x with nw := a }
def setOl (l : List (CaI κ ν)) (j a : Nat) : List (CaI κ ν) := l.modify j fun x => { x with ol := a }
theorem setNw_len (l : List (CaI κ ν)) (j a : Nat) : (setNw l j a).length = l.length := List.length_modify ..
theorem setOl_len (l : List (CaI κ ν)) (j a : Nat) : (setOl l j a).length = l.length := List.length_modify ..
theorem nwF_get {l : List (CaI κ ν)} {j : Nat} (h : j < l.length) : nwF l j = l[j].nw := by unfold nwF; rw [List.getElem?_eq_getElem h]; rfl
theorem olF_get {l : List (CaI κ ν)} {j : Nat} (h : j < l.length) : olF l j = l[j].ol := by unfold olF; rw [List.getElem?_eq_getElem h]; rfl
theorem modify_get (l : List (CaI κ ν)) (f : CaI κ ν → CaI κ ν) (j k : Nat) : (l.modify j f)[k]? = if j = k then l[k]?.map f else l[k]? := by
  rw [List.getElem?_modify]
  by_cases h : j = k
  · rw [if_pos h]; cases l[k]? <;> simp [h]
  · rw [if_neg h]; cases l[k]? <;> simp [h]
theorem nwF_setNw {l : List (CaI κ ν)} {j a : Nat} (h : j < l.length) : nwF (setNw l j a) = upN (nwF l) j a := by
  funext k
  unfold nwF setNw upN
  rw [modify_get]
  by_cases e : j = k
  · subst e; rw [if_pos rfl, if_pos rfl, List.getElem?_eq_getElem h]; rfl
  · rw [if_neg e, if_neg (Ne.symm e)]
theorem olF_setOl {l : List (CaI κ ν)} {j a : Nat} (h : j < l.length) : olF (setOl l j a) = upN (olF l) j a := by
  funext k
  unfold olF setOl upN
  rw [modify_get]
  by_cases e : j = k
  · subst e; rw [if_pos rfl, if_pos rfl, List.getElem?_eq_getElem h]; rfl
  · rw [if_neg e, if_neg (Ne.symm e)]
theorem olF_setNw (l : List (CaI κ ν)) (j a : Nat) : olF (setNw l j a) = olF l := by
  funext k
  unfold olF setNw
  rw [modify_get]
  split
  · cases l[k]? <;> rfl
  · rfl
theorem nwF_setOl (l : List (CaI κ ν)) (j a : Nat) : nwF (setOl l j a) = nwF l := by
  funext k
  unfold nwF setOl
  rw [modify_get]
  split
  · cases l[k]? <;> rfl
  · rfl
theorem kvF_setNw (l : List (CaI κ ν)) (j a : Nat) : kvF (setNw l j a) = kvF l := by
  funext k
  unfold kvF setNw
  rw [modify_get]
  split
  · cases l[k]? <;> rfl
  · rfl
theorem kvF_setOl (l : List (CaI κ ν)) (j a : Nat) : kvF (setOl l j a) = kvF l := by
  funext k
  unfold kvF setOl
  rw [modify_get]
  split
  · cases l[k]? <;> rfl
  · rfl
def outI (l : List (CaI κ ν)) (i : Nat) : List (CaI κ ν) := setNw (setOl l (nwF l i) (olF l i)) (olF l i) (nwF l i)
def firstI (l : List (CaI κ ν)) (i : Nat) : List (CaI κ ν) := setOl (setNw (setOl (setNw l i 0) i (olF l 0)) (olF l 0) i) 0 i
theorem outI_len (l : List (CaI κ ν)) (i : Nat) : (outI l i).length = l.length := by unfold outI; rw [setNw_len, setOl_len]
theorem firstI_len (l : List (CaI κ ν)) (i : Nat) : (firstI l i).length = l.length := by unfold firstI; rw [setOl_len, setNw_len, setOl_len, setNw_len]
theorem outI_kv (l : List (CaI κ ν)) (i : Nat) : kvF (outI l i) = kvF l := by unfold outI; rw [kvF_setNw, kvF_setOl]
theorem firstI_kv (l : List (CaI κ ν)) (i : Nat) : kvF (firstI l i) = kvF l := by unfold firstI; rw [kvF_setOl, kvF_setNw, kvF_setOl, kvF_setNw]
/-- the order o of a row of items -/
structure OrdI (l : List (CaI κ ν)) (o : List Nat) : Prop where
  lk : Lk (nwF l) (olF l) 0 o 0
  nd : o.Nodup
  z : 0 ∉ o
  lt : ∀ j ∈ o, j < l.length
  pos : 0 < l.length
theorem OrdI.head {l : List (CaI κ ν)} {o : List Nat} (h : OrdI l o) : olF l 0 = o.headD 0 := lk_head h.lk
theorem OrdI.last {l : List (CaI κ ν)} {o : List Nat} (h : OrdI l o) : nwF l 0 = o.getLastD 0 := lk_last h.lk
theorem OrdI.nb {l : List (CaI κ ν)} {o : List Nat} (h : OrdI l o) {i : Nat} (hi : i ∈ o) : nwF l i < l.length ∧ olF l i < l.length := by
  obtain ⟨p, s, rfl⟩ := List.append_of_mem hi
  obtain ⟨h1, h2⟩ := lk_split.1 h.lk
  rw [lk_head h2, lk_last h1]
  refine ⟨?_, ?_⟩
  · rcases List.eq_nil_or_concat p with rfl | ⟨q, y, rfl⟩
    · exact h.pos
    · simp only [List.concat_eq_append, List.getLastD_concat]
      exact h.lt y (by simp)
  · cases s with
    | nil => exact h.pos
    | cons b s => exact h.lt b (by simp)
theorem OrdI.out {l : List (CaI κ ν)} {p s : List Nat} {i : Nat} (h : OrdI l (p ++ i :: s)) : OrdI (outI l i) (p ++ s) := by
  obtain ⟨b1, b2⟩ := h.nb (i := i) (by simp)
  refine ⟨?_, ?_, fun hx => h.z (by simp only [List.mem_append, List.mem_cons] at hx ⊢; rcases hx with hx | hx; exact .inl hx; exact .inr (.inr hx)), fun j hj => ?_, by rw [outI_len]; exact h.pos⟩
  · unfold outI
    rw [nwF_setNw (by rw [setOl_len]; exact b2), nwF_setOl, olF_setNw, olF_setOl b1]
    exact lk_out h.lk h.nd h.z h.z
  · exact h.nd.sublist (List.Sublist.append (List.Sublist.refl p) (List.sublist_cons_self i s))
  · rw [outI_len]
    exact h.lt j (by simp only [List.mem_append, List.mem_cons] at hj ⊢; rcases hj with hx | hx; exact .inl hx; exact .inr (.inr hx))
theorem OrdI.first {l : List (CaI κ ν)} {o : List Nat} {i : Nat} (h : OrdI l o) (hi : i ∉ o) (h0 : i ≠ 0) (hl : i < l.length) : OrdI (firstI l i) (i :: o) := by
  have hb : olF l 0 < l.length := by
    rw [h.head]
    cases o with
    | nil => exact h.pos
    | cons b o => exact h.lt b (by simp)
  refine ⟨?_, List.nodup_cons.2 ⟨hi, h.nd⟩, fun hx => ?_, fun j hj => ?_, by rw [firstI_len]; exact h.pos⟩
  · unfold firstI
    rw [nwF_setOl, nwF_setNw (by rw [setOl_len, setNw_len]; exact hb), nwF_setOl, nwF_setNw hl, olF_setOl (by rw [setNw_len, setOl_len, setNw_len]; exact h.pos), olF_setNw, olF_setOl (by rw [setNw_len]; exact hl), olF_setNw]
    exact lk_first h.lk h.nd h.z hi h0
  · rcases List.mem_cons.1 hx with e | hx
    · exact h0 e.symm
    · exact h.z hx
  · rw [firstI_len]
    rcases List.mem_cons.1 hj with rfl | hj
    · exact hl
    · exact h.lt j hj
end
end Go.Proofs.YtdepmjgibenejaaDoor
