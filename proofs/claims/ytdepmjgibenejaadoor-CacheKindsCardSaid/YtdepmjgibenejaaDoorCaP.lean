/- What a cache holds, plainly: its order, its free places, its map (chapter 13). -/
import Derived.Test.YtdepmjgibenejaaDoorCaN
import Derived.Maps.OwnSet
namespace Go.Proofs.YtdepmjgibenejaaDoor
open Go.Maps
section
variable {κ ν : Type}
theorem OrdI.other {l l' : List (CaI κ ν)} {o : List Nat} (h : OrdI l o) (hl : l.length ≤ l'.length) (hn : ∀ j, j = 0 ∨ j ∈ o → nwF l' j = nwF l j ∧ olF l' j = olF l j) : OrdI l' o :=
  ⟨lk_congr h.lk (fun x hx => (hn x hx).2) (fun x hx => (hn x hx).1), h.nd, h.z, fun j hj => Nat.lt_of_lt_of_le (h.lt j hj) hl, Nat.lt_of_lt_of_le h.pos hl⟩
theorem eraseIdx_split {α : Type} {l : List α} {t : Nat} (h : t < l.length) : l = l.take t ++ l[t] :: l.drop (t + 1) ∧ l.eraseIdx t = l.take t ++ l.drop (t + 1) := by
  refine ⟨?_, List.eraseIdx_eq_take_drop_succ ..⟩
  rw [List.getElem_cons_drop, List.take_append_drop]
theorem mem_split_idx {α : Type} {l : List α} {t : Nat} (h : t < l.length) (x : α) : x ∈ l ↔ x = l[t] ∨ x ∈ l.eraseIdx t := by
  obtain ⟨e1, e2⟩ := eraseIdx_split h
  rw [e2]
  conv => lhs; arg 1; rw [e1]
  simp only [List.mem_append, List.mem_cons]
  exact ⟨fun | .inl h => .inr (.inl h) | .inr (.inl h) => .inl h | .inr (.inr h) => .inr (.inr h), fun | .inl h => .inr (.inl h) | .inr (.inl h) => .inl h | .inr (.inr h) => .inr (.inr h)⟩
theorem not_mem_erase {α : Type} {l : List α} (hn : l.Nodup) {t : Nat} (h : t < l.length) : l[t] ∉ l.eraseIdx t := by
  obtain ⟨e1, e2⟩ := eraseIdx_split h
  rw [e2]
  rw [e1, List.nodup_append] at hn
  obtain ⟨_, n2, n3⟩ := hn
  intro hm
  rcases List.mem_append.1 hm with hm | hm
  · exact n3 _ hm _ (List.mem_cons_self) rfl
  · exact (List.nodup_cons.1 n2).1 hm
theorem nodup_inj {α : Type} {l : List α} (h : l.Nodup) {i j : Nat} (hi : i < l.length) (hj : j < l.length) (e : l[i] = l[j]) : i = j := by
  rcases Nat.lt_trichotomy i j with h1 | h1 | h1
  · exact absurd e (List.pairwise_iff_getElem.1 h i j hi hj h1)
  · exact h1
  · exact absurd e.symm (List.pairwise_iff_getElem.1 h j i hj hi h1)
theorem map_eraseIdx {α β : Type} (f : α → β) (l : List α) (t : Nat) : (l.eraseIdx t).map f = (l.map f).eraseIdx t := by
  induction l generalizing t with
  | nil => rfl
  | cons x l ih => cases t with
    | zero => rfl
    | succ t => simp [ih]
variable (kl : κ → Lit) (kw : κ → Prop)
/-- what a cache holds: es, the newest first -/
structure CaV (most : Nat) (its : List (CaI κ ν)) (o fr : List Nat) (D : DataW Unit) (es : List (κ × ν)) : Prop where
  ord : OrdI its o
  kv : o.map (kvF its) = es.map some
  kd : (es.map (·.1)).Nodup
  kwf : ∀ x ∈ es, kw x.1
  has : ∀ k, kw k → (Maps.has D (kl k) = true ↔ k ∈ es.map (·.1))
  at' : ∀ j ∈ o, ∀ x, kvF its j = some x → ∀ z, D.atKey (kl x.1) z = .lit (.int .i64 (j : Int))
  size : Maps.size D = es.length
  tidy : Tidy D
  frn : fr.Nodup
  frz : ∀ j ∈ fr, j ≠ 0 ∧ j < its.length ∧ j ∉ o
  tot : its.length = 1 + o.length + fr.length
  le : es.length ≤ most
  bnd : its.length ≤ most + 1
variable {kl kw} {most : Nat} {its : List (CaI κ ν)} {o fr : List Nat} {D : DataW Unit} {es : List (κ × ν)}
theorem CaV.len (h : CaV kl kw most its o fr D es) : o.length = es.length := by
  have := congrArg List.length h.kv
  simpa using this
theorem CaV.kvt (h : CaV kl kw most its o fr D es) {t : Nat} (ht : t < es.length) : kvF its (o[t]'(by rw [h.len]; exact ht)) = some es[t] := by
  have h1 : (o.map (kvF its))[t]? = (es.map some)[t]? := by rw [h.kv]
  rw [List.getElem?_map, List.getElem?_map, List.getElem?_eq_getElem (by rw [h.len]; exact ht), List.getElem?_eq_getElem ht] at h1
  simpa using h1
theorem CaV.look [DecidableEq κ] (h : CaV kl kw most its o fr D es) {k : κ} (hk : kw k) : (k ∉ es.map (·.1) ∧ Maps.has D (kl k) = false) ∨
    ∃ (t : Nat) (ht : t < es.length), es[t].1 = k ∧ Maps.has D (kl k) = true ∧ ∀ z, D.atKey (kl k) z = .lit (.int .i64 ((o[t]'(by rw [h.len]; exact ht) : Nat) : Int)) := by
  by_cases hm : k ∈ es.map (·.1)
  · obtain ⟨x, hx, rfl⟩ := List.mem_map.1 hm
    obtain ⟨t, ht, rfl⟩ := List.getElem_of_mem hx
    exact .inr ⟨t, ht, rfl, (h.has _ hk).2 hm, h.at' _ (List.getElem_mem _) _ (h.kvt ht)⟩
  · refine .inl ⟨hm, ?_⟩
    cases hh : Maps.has D (kl k) with
    | false => rfl
    | true => exact absurd ((h.has _ hk).1 hh) hm
theorem CaV.lt (h : CaV kl kw most its o fr D es) {t : Nat} (ht : t < o.length) : o[t] < its.length ∧ nwF its o[t] < its.length ∧ olF its o[t] < its.length :=
  ⟨h.ord.lt _ (List.getElem_mem _), h.ord.nb (List.getElem_mem _)⟩
theorem out_ord {its : List (CaI κ ν)} {o : List Nat} (h : OrdI its o) {t : Nat} (ht : t < o.length) : OrdI (outI its o[t]) (o.eraseIdx t) := by
  obtain ⟨e1, e2⟩ := eraseIdx_split ht
  rw [e2]
  generalize o[t] = i at e1 ⊢
  rw [e1] at h
  exact h.out
/-- a thing that was used is the newest -/
theorem CaV.front (h : CaV kl kw most its o fr D es) {t : Nat} (ht : t < es.length) (hto : t < o.length) :
    olF (outI its o[t]) 0 < its.length ∧ CaV kl kw most (firstI (outI its o[t]) o[t]) (o[t] :: o.eraseIdx t) fr D (es[t] :: es.eraseIdx t) := by
  have h1 := out_ord h.ord hto
  have hi := not_mem_erase h.ord.nd hto
  have h0 : o[t] ≠ 0 := fun e => h.ord.z (e ▸ List.getElem_mem _)
  have hb : olF (outI its o[t]) 0 < its.length := by
    rw [h1.head, ← outI_len its o[t]]
    cases ho : o.eraseIdx t with
    | nil => exact h1.pos
    | cons b q => exact h1.lt b (by rw [ho]; simp)
  refine ⟨hb, h1.first hi h0 (by rw [outI_len]; exact (h.lt hto).1), ?_, ?_, fun x hx => ?_, fun k hk => ?_, fun j hj x hx => ?_, ?_, h.tidy, h.frn, fun j hj => ?_, ?_, ?_, by rw [firstI_len, outI_len]; exact h.bnd⟩
  · rw [firstI_kv, outI_kv, List.map_cons, List.map_cons, map_eraseIdx, map_eraseIdx, h.kv, h.kvt ht]
  · rw [List.map_cons, map_eraseIdx, List.nodup_cons]
    have hn := h.kd
    refine ⟨?_, hn.sublist (List.eraseIdx_sublist ..)⟩
    have := not_mem_erase hn (t := t) (by simpa using ht)
    simpa using this
  · exact h.kwf x ((mem_split_idx ht x).2 (List.mem_cons.1 hx))
  · rw [h.has k hk]
    simp only [List.mem_map]
    constructor
    · rintro ⟨x, hx, rfl⟩
      exact ⟨x, List.mem_cons.2 ((mem_split_idx ht x).1 hx), rfl⟩
    · rintro ⟨x, hx, rfl⟩
      exact ⟨x, (mem_split_idx ht x).2 (List.mem_cons.1 hx), rfl⟩
  · rw [firstI_kv, outI_kv] at hx
    exact h.at' j ((mem_split_idx hto j).2 (List.mem_cons.1 hj)) x hx
  · rw [h.size, List.length_cons, List.length_eraseIdx_of_lt ht]; omega
  · obtain ⟨a, b, c⟩ := h.frz j hj
    refine ⟨a, by rw [firstI_len, outI_len]; exact b, fun hm => c ((mem_split_idx hto j).2 (List.mem_cons.1 hm))⟩
  · rw [firstI_len, outI_len, h.tot, List.length_cons, List.length_eraseIdx_of_lt hto]; omega
  · rw [List.length_cons, List.length_eraseIdx_of_lt ht]; have := h.le; omega
/-- a value put in the place of another -/
def setV (l : List (CaI κ ν)) (j : Nat) (v : ν) : List (CaI κ ν) := l.modify j fun x => { x with v := v }
def setKV (l : List (CaI κ ν)) (j : Nat) (k : κ) (v : ν) : List (CaI κ ν) := l.modify j fun x => { x with k := k, v := v }
theorem setV_len (l : List (CaI κ ν)) (j : Nat) (v : ν) : (setV l j v).length = l.length := List.length_modify ..
theorem setKV_len (l : List (CaI κ ν)) (j : Nat) (k : κ) (v : ν) : (setKV l j k v).length = l.length := List.length_modify ..
theorem setV_nw (l : List (CaI κ ν)) (j : Nat) (v : ν) : nwF (setV l j v) = nwF l := by
  funext i
  unfold nwF setV
  rw [modify_get]
  split
  · cases l[i]? <;> rfl
  · rfl
theorem setV_ol (l : List (CaI κ ν)) (j : Nat) (v : ν) : olF (setV l j v) = olF l := by
  funext i
  unfold olF setV
  rw [modify_get]
  split
  · cases l[i]? <;> rfl
  · rfl
theorem setKV_nw (l : List (CaI κ ν)) (j : Nat) (k : κ) (v : ν) : nwF (setKV l j k v) = nwF l := by
  funext i
  unfold nwF setKV
  rw [modify_get]
  split
  · cases l[i]? <;> rfl
  · rfl
theorem setKV_ol (l : List (CaI κ ν)) (j : Nat) (k : κ) (v : ν) : olF (setKV l j k v) = olF l := by
  funext i
  unfold olF setKV
  rw [modify_get]
  split
  · cases l[i]? <;> rfl
  · rfl
theorem setV_kv {l : List (CaI κ ν)} {j i : Nat} (v : ν) : kvF (setV l j v) i = if j = i then (kvF l i).map fun x => (x.1, v) else kvF l i := by
  unfold kvF setV
  rw [modify_get]
  split
  · cases l[i]? <;> rfl
  · rfl
theorem setKV_kv {l : List (CaI κ ν)} {j i : Nat} (k : κ) (v : ν) : kvF (setKV l j k v) i = if j = i then (kvF l i).map fun _ => (k, v) else kvF l i := by
  unfold kvF setKV
  rw [modify_get]
  split
  · cases l[i]? <;> rfl
  · rfl
theorem CaV.setv (h : CaV kl kw most its o fr D es) {t : Nat} (ht : t < es.length) (hto : t < o.length) (v : ν) : CaV kl kw most (setV its o[t] v) o fr D (es.set t (es[t].1, v)) := by
  have hk : (es.set t (es[t].1, v)).map (·.1) = es.map (·.1) := by
    rw [List.map_set]
    refine List.ext_getElem? fun i => ?_
    rw [List.getElem?_set]
    split
    · rename_i e; subst e; simp [ht]
    · rfl
  refine ⟨h.ord.other (by rw [setV_len]; exact Nat.le_refl _) (fun j _ => by rw [setV_nw, setV_ol]; exact ⟨rfl, rfl⟩), ?_, by rw [hk]; exact h.kd, fun x hx => ?_, fun k hkw => by rw [hk]; exact h.has k hkw, fun j hj x hx => ?_, by rw [List.length_set]; exact h.size, h.tidy, h.frn, fun j hj => by rw [setV_len]; exact h.frz j hj, by rw [setV_len]; exact h.tot, by rw [List.length_set]; exact h.le, by rw [setV_len]; exact h.bnd⟩
  · refine List.ext_getElem? fun i => ?_
    rw [List.getElem?_map, List.getElem?_map, List.getElem?_set]
    by_cases hi : i < es.length
    · have hio : i < o.length := by rw [h.len]; exact hi
      rw [List.getElem?_eq_getElem hio, Option.map_some, setV_kv]
      by_cases e : t = i
      · subst e
        rw [if_pos rfl, if_pos rfl, if_pos ht, h.kvt ht]; rfl
      · rw [if_neg (fun e2 => e (nodup_inj h.ord.nd hto hio e2)), if_neg e, h.kvt hi, List.getElem?_eq_getElem hi]; rfl
    · rw [List.getElem?_eq_none (by rw [h.len]; omega), if_neg (by omega), List.getElem?_eq_none (by omega)]; rfl
  · obtain ⟨y, hy, e⟩ : ∃ y ∈ es, y.1 = x.1 := by
      have : x.1 ∈ es.map (·.1) := by rw [← hk]; exact List.mem_map.2 ⟨x, hx, rfl⟩
      exact List.mem_map.1 this
    rw [← e]; exact h.kwf y hy
  · rw [setV_kv] at hx
    split at hx
    · obtain ⟨y, hy, rfl⟩ := Option.map_eq_some_iff.1 hx
      exact h.at' j hj y hy
    · exact h.at' j hj x hx
/-- a thing is no more: its place is free -/
theorem CaV.remove [DecidableEq κ] (hinj : ∀ a b, kw a → kw b → kl a = kl b → a = b) (h : CaV kl kw most its o fr D es) {t : Nat} (ht : t < es.length) (hto : t < o.length) (x0 : CaI κ ν) :
    CaV kl kw most ((outI its o[t]).set o[t] x0) (o.eraseIdx t) (fr ++ [o[t]]) (D.del (kl es[t].1)) (es.eraseIdx t) := by
  have h1 := out_ord h.ord hto
  have hi := not_mem_erase h.ord.nd hto
  have h0 : o[t] ≠ 0 := fun e => h.ord.z (e ▸ List.getElem_mem _)
  have hne : ∀ j, j = 0 ∨ j ∈ o.eraseIdx t → o[t] ≠ j := by
    rintro j (rfl | hj) e
    · exact h0 e
    · exact hi (e ▸ hj)
  have hget : ∀ j, o[t] ≠ j → ((outI its o[t]).set o[t] x0)[j]? = (outI its o[t])[j]? := fun j e => List.getElem?_set_ne e
  have hk0 := h.kwf _ (List.getElem_mem ht)
  have hkn := h.kd
  have hnk : es[t].1 ∉ (es.eraseIdx t).map (·.1) := by
    rw [map_eraseIdx]
    have := not_mem_erase hkn (t := t) (by simpa using ht)
    simpa using this
  have hh : Maps.has D (kl es[t].1) = true := (h.has _ hk0).2 (List.mem_map.2 ⟨_, List.getElem_mem ht, rfl⟩)
  refine ⟨h1.other (by rw [List.length_set]; exact Nat.le_refl _) (fun j hj => ?_), ?_, ?_, fun x hx => h.kwf x ((mem_split_idx ht x).2 (.inr hx)), fun k hk => ?_, fun j hj x hx z => ?_, ?_, h.tidy.del _, ?_, fun j hj => ?_, ?_, ?_, by rw [List.length_set, outI_len]; exact h.bnd⟩
  · unfold nwF olF
    rw [hget j (hne j hj)]; exact ⟨rfl, rfl⟩
  · rw [map_eraseIdx some, ← h.kv, ← map_eraseIdx]
    refine List.map_congr_left fun j hj => ?_
    have : kvF ((outI its o[t]).set o[t] x0) j = kvF (outI its o[t]) j := by unfold kvF; rw [hget j (hne j (.inr hj))]
    rw [this, outI_kv]
  · rw [map_eraseIdx]; exact hkn.sublist (List.eraseIdx_sublist ..)
  · by_cases e : k = es[t].1
    · subst e
      rw [has_del_same]
      exact ⟨(fun e => by cases e), fun e => absurd e hnk⟩
    · rw [has_del_other (fun e2 => e (hinj _ _ hk hk0 e2)), h.has k hk]
      simp only [List.mem_map]
      constructor
      · rintro ⟨x, hx, rfl⟩
        rcases (mem_split_idx ht x).1 hx with rfl | hx
        · exact absurd rfl e
        · exact ⟨x, hx, rfl⟩
      · rintro ⟨x, hx, rfl⟩
        exact ⟨x, (mem_split_idx ht x).2 (.inr hx), rfl⟩
  · have hx' : kvF its j = some x := by
      have : kvF ((outI its o[t]).set o[t] x0) j = kvF (outI its o[t]) j := by unfold kvF; rw [hget j (hne j (.inr hj))]
      rw [this, outI_kv] at hx
      exact hx
    have hjo : j ∈ o := (mem_split_idx hto j).2 (.inr hj)
    have hne2 : x.1 ≠ es[t].1 := by
      intro e
      have h5 := h.at' j hjo x hx' (.lit (.int .i64 0))
      have h6 := h.at' _ (List.getElem_mem hto) _ (h.kvt ht) (.lit (.int .i64 0))
      rw [e, h6] at h5
      injection h5 with h5; injection h5 with _ h5
      exact hne j (.inr hj) (by omega)
    have hxk : kw x.1 := by
      have h7 : some x ∈ es.map some := by rw [← h.kv]; exact List.mem_map.2 ⟨j, hjo, hx'⟩
      obtain ⟨y, hy, e⟩ := List.mem_map.1 h7
      cases e
      exact h.kwf _ hy
    rw [atKey_del_other (fun e2 => hne2 (hinj _ _ hxk hk0 e2))]
    exact h.at' j hjo x hx' z
  · have := size_del (k := kl es[t].1) h.tidy
    rw [hh, if_pos rfl, h.size] at this
    rw [List.length_eraseIdx_of_lt ht]; omega
  · rw [List.nodup_append]
    exact ⟨h.frn, by simp, fun a ha b hb e => by
      rw [List.mem_singleton] at hb
      subst hb
      exact (h.frz a ha).2.2 (e ▸ List.getElem_mem _)⟩
  · rw [List.length_set, outI_len]
    rcases List.mem_append.1 hj with hj | hj
    · obtain ⟨a, b, c⟩ := h.frz j hj
      exact ⟨a, b, fun hm => c ((mem_split_idx hto j).2 (.inr hm))⟩
    · rw [List.mem_singleton] at hj
      subst hj
      exact ⟨h0, (h.lt hto).1, hi⟩
  · rw [List.length_set, outI_len, h.tot, List.length_eraseIdx_of_lt hto, List.length_append]; simp; omega
  · rw [List.length_eraseIdx_of_lt ht]; have := h.le; omega
/-- a place more -/
theorem CaV.more (h : CaV kl kw most its o [] D es) (x0 : CaI κ ν) (hl : es.length < most) : CaV kl kw most (its ++ [x0]) o [its.length] D es := by
  have hget : ∀ j, j = 0 ∨ j ∈ o → (its ++ [x0])[j]? = its[j]? := fun j hj => by
    refine List.getElem?_append_left ?_
    rcases hj with rfl | hj
    · exact h.ord.pos
    · exact h.ord.lt j hj
  refine ⟨h.ord.other (by simp) (fun j hj => by unfold nwF olF; rw [hget j hj]; exact ⟨rfl, rfl⟩), ?_, h.kd, h.kwf, h.has, fun j hj x hx => ?_, h.size, h.tidy, by simp, fun j hj => ?_, ?_, h.le, ?_⟩
  · rw [← h.kv]
    exact List.map_congr_left fun j hj => by unfold kvF; rw [hget j (.inr hj)]
  · refine h.at' j hj x ?_
    unfold kvF at hx ⊢
    rwa [hget j (.inr hj)] at hx
  · rw [List.mem_singleton] at hj
    subst hj
    refine ⟨by have := h.ord.pos; omega, by simp, fun hm => ?_⟩
    have := h.ord.lt _ hm
    omega
  · have := h.tot
    simp at this ⊢; omega
  · have := h.tot
    have h2 := h.len
    simp at this ⊢; omega
/-- a thing more, in a free place -/
theorem CaV.add [DecidableEq κ] (hinj : ∀ a b, kw a → kw b → kl a = kl b → a = b) (hkey : ∀ a, kw a → WideAt.IsKeyLit (kl a)) {i : Nat} (h : CaV kl kw most its o (fr ++ [i]) D es) {k : κ} (v : ν) (hk : kw k) (hn : k ∉ es.map (·.1)) (hl : es.length < most) :
    olF (setKV its i k v) 0 < its.length ∧ i < its.length ∧ CaV kl kw most (firstI (setKV its i k v) i) (i :: o) fr (D.put (kl k) (.lit (.int .i64 (i : Int)))) ((k, v) :: es) := by
  obtain ⟨i0, il, io⟩ := h.frz i (by simp)
  have h1 : OrdI (setKV its i k v) o := h.ord.other (by rw [setKV_len]; exact Nat.le_refl _) (fun j _ => by rw [setKV_nw, setKV_ol]; exact ⟨rfl, rfl⟩)
  have hb : olF (setKV its i k v) 0 < its.length := by
    rw [h1.head, ← setKV_len its i k v]
    cases ho : o with
    | nil => exact h1.pos
    | cons b q => exact h1.lt b (by rw [ho]; simp)
  have hkv : ∀ j ∈ o, kvF (setKV its i k v) j = kvF its j := fun j hj => by rw [setKV_kv, if_neg (fun (e : i = j) => io (e ▸ hj))]
  have hki : kvF (setKV its i k v) i = some (k, v) := by
    rw [setKV_kv, if_pos rfl]
    unfold kvF
    rw [List.getElem?_eq_getElem il]; rfl
  have hnh : Maps.has D (kl k) = false := by
    cases hh : Maps.has D (kl k) with
    | false => rfl
    | true => exact absurd ((h.has _ hk).1 hh) hn
  have hfr := h.frn
  rw [List.nodup_append] at hfr
  refine ⟨hb, il, h1.first io i0 (by rw [setKV_len]; exact il), ?_, ?_, fun x hx => ?_, fun q hq => ?_, fun j hj x hx z => ?_, ?_, h.tidy.put (hkey k hk) _, hfr.1, fun j hj => ?_, ?_, ?_, by rw [firstI_len, setKV_len]; exact h.bnd⟩
  · rw [firstI_kv, List.map_cons, List.map_cons, hki, ← h.kv]
    congr 1
    exact List.map_congr_left hkv
  · rw [List.map_cons, List.nodup_cons]
    exact ⟨hn, h.kd⟩
  · rcases List.mem_cons.1 hx with rfl | hx
    · exact hk
    · exact h.kwf x hx
  · by_cases e : q = k
    · subst e
      rw [has_put_same h.tidy.isMap (hkey q hk)]
      simp
    · rw [has_put_other (fun e2 => e (hinj _ _ hq hk e2)), h.has q hq, List.map_cons, List.mem_cons]
      exact ⟨.inr, fun h => h.resolve_left e⟩
  · rw [firstI_kv] at hx
    rcases List.mem_cons.1 hj with rfl | hj
    · rw [hki] at hx
      cases hx
      exact atKey_put_same h.tidy.isMap (hkey k hk) _ _
    · rw [hkv j hj] at hx
      have hm : some x ∈ es.map some := by rw [← h.kv]; exact List.mem_map.2 ⟨j, hj, hx⟩
      obtain ⟨y, hy, e⟩ := List.mem_map.1 hm
      cases e
      rw [atKey_put_other (fun e2 => hn (List.mem_map.2 ⟨_, hy, hinj _ _ (h.kwf _ hy) hk e2⟩))]
      exact h.at' j hj _ hx z
  · rw [size_put h.tidy, hnh, h.size]; rfl
  · obtain ⟨a, b, c⟩ := h.frz j (List.mem_append.2 (.inl hj))
    refine ⟨a, by rw [firstI_len, setKV_len]; exact b, fun hm => ?_⟩
    rcases List.mem_cons.1 hm with rfl | hm
    · exact hfr.2.2 j hj j (by simp) rfl
    · exact c hm
  · have := h.tot
    rw [firstI_len, setKV_len, this, List.length_append, List.length_cons]; simp; omega
  · rw [List.length_cons]; omega
/-- a new one -/
theorem CaV.new (kl : κ → Lit) (kw : κ → Prop) (most : Nat) (x0 : CaI κ ν) (h1 : x0.nw = 0) (h2 : x0.ol = 0) : CaV kl kw most [x0] [] [] (.map []) [] :=
  ⟨⟨⟨by simp [olF, h2], by simp [nwF, h1]⟩, List.nodup_nil, by simp, (fun j hj => by cases hj), by simp⟩, rfl, List.nodup_nil, (fun x hx => by cases hx), (fun k _ => by simp [has_eq]), (fun j hj => by cases hj), rfl, tidy_empty, List.nodup_nil, (fun j hj => by cases hj), rfl, Nat.zero_le _, by simp⟩
end
end Go.Proofs.YtdepmjgibenejaaDoor
