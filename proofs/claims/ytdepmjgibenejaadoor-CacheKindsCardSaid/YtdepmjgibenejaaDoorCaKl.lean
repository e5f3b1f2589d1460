/- cartularylaw13.CacheKinds: what stands of two caches of unlike kinds. -/
import Derived.Test.YtdepmjgibenejaaDoorCaTC
import Derived.Test.YtdepmjgibenejaaDoorCaHC
import Derived.Stop.BytesEq
import Derived.Laws.StructEq
namespace Go.Proofs.YtdepmjgibenejaaDoor
set_option maxRecDepth 100000
open Go.RowKit Go.Maps
def tlEq (a b : TlK) : Bool := a.lv == b.lv && (a.ix == b.ix && a.wd == b.wd)
theorem tlEq_true {a b : TlK} : tlEq a b = true ↔ a = b := by
  obtain ⟨a1, a2, a3⟩ := a
  obtain ⟨b1, b2, b3⟩ := b
  simp [tlEq]
theorem eq_tilez (D : Nat) (w : World) (a b : TlK) : (Op.equalIn (D + 2) 30 (.agg #[.int .u8 a.lv, .int .u64 a.ix, .int .i64 a.wd]) (.agg #[.int .u8 b.lv, .int .u64 b.ix, .int .i64 b.wd])).run Tryd.prog w = .ok (tlEq a b) w := by
  unfold tlEq
  obtain ⟨a1, a2, a3⟩ := a
  obtain ⟨b1, b2, b3⟩ := b
  simp [go_sem, Op.equalIn]
  by_cases h1 : a1 = b1
  · by_cases h2 : a2 = b2
    · by_cases h3 : a3 = b3
      · subst h1; subst h2; subst h3; simp
      · simp [h1, h2, h3]
    · simp [h1, h2]
  · simp [h1]
theorem tile_eqz (w : World) (a b : TlK) : (binOp .eql 30 (.agg (kcT a).toArray) (.agg (kcT b).toArray)).run Tryd.prog w = .ok (.bool (tlEq a b)) w := by
  show (binOp .eql 30 (.agg #[.int .u8 a.lv, .int .u64 a.ix, .int .i64 a.wd]) (.agg #[.int .u8 b.lv, .int .u64 b.ix, .int .i64 b.wd])).run Tryd.prog w = _
  rw [run_eql_struct, show (10000 : Nat) = 9998 + 2 from rfl, eq_tilez]; simp
theorem hash_eqz (w : World) (a b : List UInt8) (ha : a.length = 32) (hb : b.length = 32) : (binOp .eql 32 (.agg (bcells a).toArray) (.agg (bcells b).toArray)).run Tryd.prog w = .ok (.bool (a == b)) w :=
  run_eql_bytes w 32 5 32 underHz (by kernel_rfl) (fun _ => by kernel_rfl) a b ha hb
section
variable {κ ν : Type}
/-- x is the last place before t with i's key -/
def IsLast (f : Nat → κ) (i t x : Nat) : Prop := i ≤ x ∧ x < t ∧ f x = f i ∧ ∀ k, x < k → k < t → f k ≠ f i
def InvP (f : Nat → κ) (v : Nat → ν) (t : Nat) (es : List (κ × ν)) : Prop := ∀ i x, i < t → IsLast f i t x → (f i, v x) ∈ es
theorem IsLast.one (f : Nat → κ) (i : Nat) : IsLast f i (i + 1) i := ⟨Nat.le_refl _, by omega, rfl, fun k h1 h2 => by omega⟩
theorem IsLast.same {f : Nat → κ} {i k : Nat} (hk : i ≤ k) (e : f k = f i) : IsLast f i (k + 1) k := ⟨hk, by omega, e, fun q h1 h2 => by omega⟩
theorem IsLast.skip {f : Nat → κ} {i k x : Nat} (h : IsLast f i k x) (e : f k ≠ f i) : IsLast f i (k + 1) x :=
  ⟨h.1, by have := h.2.1; omega, h.2.2.1, fun q h1 h2 => by
    rcases Nat.lt_or_ge q k with h3 | h3
    · exact h.2.2.2 q h1 h3
    · have : q = k := by omega
      rw [this]; exact e⟩
theorem InvP.nil (f : Nat → κ) (v : Nat → ν) : InvP f v 0 [] := fun i x h _ => absurd h (Nat.not_lt_zero _)
theorem InvP.congr {f : Nat → κ} {v v' : Nat → ν} {t : Nat} {es : List (κ × ν)} (h : InvP f v t es) (hv : ∀ x, x < t → v' x = v x) : InvP f v' t es := fun i x hi hl => by
  rw [hv x hl.2.1]; exact h i x hi hl
theorem InvP.back {f : Nat → κ} {v : Nat → ν} {t : Nat} {es : List (κ × ν)} (h : InvP f v t es) {i x : Nat} (hl : IsLast f i (t + 1) x) (hx : x ≠ t) : (f i, v x) ∈ es ∧ f t ≠ f i := by
  have hlt : x < t := by have := hl.2.1; omega
  exact ⟨h i x (by have := hl.1; omega) ⟨hl.1, hlt, hl.2.2.1, fun k h1 h2 => hl.2.2.2 k h1 (by omega)⟩, hl.2.2.2 t hlt (by omega)⟩
theorem InvP.new {f : Nat → κ} {v : Nat → ν} {t : Nat} {es : List (κ × ν)} (h : InvP f v t es) : InvP f v (t + 1) ((f t, v t) :: es) := fun i x hi hl => by
  by_cases hx : x = t
  · subst hx; rw [← hl.2.2.1]; exact List.mem_cons_self ..
  · exact List.mem_cons_of_mem _ (h.back hl hx).1
theorem InvP.hit {f : Nat → κ} {v : Nat → ν} {t : Nat} {es : List (κ × ν)} (h : InvP f v t es) {j : Nat} (hj : j < es.length) (e : es[j].1 = f t) : InvP f v (t + 1) ((f t, v t) :: es.eraseIdx j) := fun i x hi hl => by
  by_cases hx : x = t
  · subst hx; rw [← hl.2.2.1]; exact List.mem_cons_self ..
  · obtain ⟨h1, h2⟩ := h.back hl hx
    obtain ⟨q, hq, eq⟩ := List.getElem_of_mem h1
    refine List.mem_cons_of_mem _ (List.mem_eraseIdx_iff_getElem.2 ⟨q, hq, fun e2 => h2 ?_, eq⟩)
    subst e2
    rw [← e, eq]
theorem InvP.get {f : Nat → κ} {v : Nat → ν} {t : Nat} {es : List (κ × ν)} (h : InvP f v t es) {j : Nat} (hj : j < es.length) : InvP f v t (es[j] :: es.eraseIdx j) := fun i x hi hl => by
  have h1 := h i x hi hl
  obtain ⟨q, hq, eq⟩ := List.getElem_of_mem h1
  by_cases hqj : q = j
  · subst hqj; rw [eq]; exact List.mem_cons_self ..
  · exact List.mem_cons_of_mem _ (List.mem_eraseIdx_iff_getElem.2 ⟨q, hq, hqj, eq⟩)
end
/-- a cache into which so many were put -/
def KCT (base : Nat) (u : World) (r : Nat) (f : Nat → TlK) (v : Nat → (List UInt8)) (t : Nat) (B : Nat → Prop) : Prop := ∃ es, CaYT base u r 1024 es B ∧ InvP f v t es ∧ es.length ≤ t
theorem kputT (base : Nat) (u : World) (r : Nat) (f : Nat → TlK) (v : Nat → (List UInt8)) (t : Nat) (B : Nat → Prop) (h : KCT base u r f v t B) (hb : base ≤ u.heap.size) (ht : t < 1000) (hk : kwT (f t)) (hxl : (v t).length = 32) :
    Calls Tryd.prog 9 #[.pointer (some ⟨r, 0, none⟩), .agg (kcT (f t)).toArray, .agg (vcT (v t)).toArray] u fun e w' => ∃ z, e = .returned z ∧ ∃ B', KCT base w' r f v (t + 1) B' ∧ Keep B u w' ∧ ∀ k, B' k → B k ∨ u.heap.size ≤ k := by
  obtain ⟨es, h1, h2, h3⟩ := h
  by_cases hm : f t ∈ es.map (·.1)
  · obtain ⟨x, hx, ex⟩ := List.mem_map.1 hm
    obtain ⟨j, hj, ej⟩ := List.getElem_of_mem hx
    have ek : es[j].1 = f t := by rw [ej]; exact ex
    refine (yput_hitT base u r 1024 es B hb h1 (f t) hk (v t) hxl j hj ek).mono ?_
    rintro e w' ⟨he, B', c1, c2, c3⟩
    exact ⟨_, he, B', ⟨_, c1, h2.hit hj ek, by rw [List.length_cons, List.length_eraseIdx_of_lt hj]; omega⟩, c2, c3⟩
  · refine (yput_newT base u r 1024 es B hb h1 (f t) hk (v t) hxl hm (by omega)).mono ?_
    rintro e w' ⟨he, B', c1, c2, c3⟩
    exact ⟨_, he, B', ⟨_, c1, h2.new, by rw [List.length_cons]; omega⟩, c2, c3⟩
theorem kgetT (base : Nat) (u : World) (r : Nat) (f : Nat → TlK) (v : Nat → (List UInt8)) (n : Nat) (B : Nat → Prop) (h : KCT base u r f v n B) (i x : Nat) (hi : i < n) (hl : IsLast f i n x) (hk : kwT (f i)) :
    Calls Tryd.prog 11 #[.pointer (some ⟨r, 0, none⟩), .agg (kcT (f i)).toArray] u fun e w' => e = .returned (.tuple #[.agg (vcT (v x)).toArray, .bool true]) ∧ ∃ B', KCT base w' r f v n B' ∧ Keep B u w' ∧ ∀ k, B' k → B k ∨ u.heap.size ≤ k := by
  obtain ⟨es, h1, h2, h3⟩ := h
  obtain ⟨j, hj, ej⟩ := List.getElem_of_mem (h2 i x hi hl)
  refine (ygetT base u r 1024 es B h1 (f i) hk j hj (by rw [ej])).mono ?_
  rintro e w' ⟨he, B', c1, c2, c3⟩
  exact ⟨by rw [he, ej], B', ⟨_, c1, h2.get hj, by rw [List.length_cons, List.length_eraseIdx_of_lt hj]; omega⟩, c2, c3⟩
theorem KCT.kept {base : Nat} {u u' : World} {r : Nat} {f : Nat → TlK} {v : Nat → (List UInt8)} {t : Nat} {B T : Nat → Prop} (h : KCT base u r f v t B) (k : Keep T u u') (hd : ∀ j, B j → ¬ T j) : KCT base u' r f v t B := by
  obtain ⟨es, h1, h2, h3⟩ := h
  exact ⟨es, h1.kept k hd, h2, h3⟩
theorem KCT.congr {base : Nat} {u : World} {r : Nat} {f : Nat → TlK} {v v' : Nat → (List UInt8)} {t : Nat} {B : Nat → Prop} (h : KCT base u r f v t B) (hv : ∀ x, x < t → v' x = v x) : KCT base u r f v' t B := by
  obtain ⟨es, h1, h2, h3⟩ := h
  exact ⟨es, h1, h2.congr hv, h3⟩
theorem KCT.lt {base : Nat} {u : World} {r : Nat} {f : Nat → TlK} {v : Nat → (List UInt8)} {t : Nat} {B : Nat → Prop} (h : KCT base u r f v t B) (k : Nat) (hk : B k) : k < u.heap.size := by
  obtain ⟨es, h1, _⟩ := h
  exact h1.lt k hk
theorem KCT.ge {base : Nat} {u : World} {r : Nat} {f : Nat → TlK} {v : Nat → (List UInt8)} {t : Nat} {B : Nat → Prop} (h : KCT base u r f v t B) (k : Nat) (hk : B k) : base ≤ k := by
  obtain ⟨es, h1, _⟩ := h
  exact h1.ge k hk
/-- a cache into which so many were put -/
def KCH (base : Nat) (u : World) (r : Nat) (f : Nat → (List UInt8)) (v : Nat → (Option Nat)) (t : Nat) (B : Nat → Prop) : Prop := ∃ es, CaYH base u r 1024 es B ∧ InvP f v t es ∧ es.length ≤ t
theorem kputH (base : Nat) (u : World) (r : Nat) (f : Nat → (List UInt8)) (v : Nat → (Option Nat)) (t : Nat) (B : Nat → Prop) (h : KCH base u r f v t B) (hb : base ≤ u.heap.size) (ht : t < 1000) (hk : kwH (f t))  :
    Calls Tryd.prog 10 #[.pointer (some ⟨r, 0, none⟩), .agg (kcH (f t)).toArray, .pointer ((v t).map fun b => ⟨b, 0, none⟩)] u fun e w' => ∃ z, e = .returned z ∧ ∃ B', KCH base w' r f v (t + 1) B' ∧ Keep B u w' ∧ ∀ k, B' k → B k ∨ u.heap.size ≤ k := by
  obtain ⟨es, h1, h2, h3⟩ := h
  by_cases hm : f t ∈ es.map (·.1)
  · obtain ⟨x, hx, ex⟩ := List.mem_map.1 hm
    obtain ⟨j, hj, ej⟩ := List.getElem_of_mem hx
    have ek : es[j].1 = f t := by rw [ej]; exact ex
    refine (yput_hitH base u r 1024 es B hb h1 (f t) hk (v t)  j hj ek).mono ?_
    rintro e w' ⟨he, B', c1, c2, c3⟩
    exact ⟨_, he, B', ⟨_, c1, h2.hit hj ek, by rw [List.length_cons, List.length_eraseIdx_of_lt hj]; omega⟩, c2, c3⟩
  · refine (yput_newH base u r 1024 es B hb h1 (f t) hk (v t)  hm (by omega)).mono ?_
    rintro e w' ⟨he, B', c1, c2, c3⟩
    exact ⟨_, he, B', ⟨_, c1, h2.new, by rw [List.length_cons]; omega⟩, c2, c3⟩
theorem kgetH (base : Nat) (u : World) (r : Nat) (f : Nat → (List UInt8)) (v : Nat → (Option Nat)) (n : Nat) (B : Nat → Prop) (h : KCH base u r f v n B) (i x : Nat) (hi : i < n) (hl : IsLast f i n x) (hk : kwH (f i)) :
    Calls Tryd.prog 12 #[.pointer (some ⟨r, 0, none⟩), .agg (kcH (f i)).toArray] u fun e w' => e = .returned (.tuple #[.pointer ((v x).map fun b => ⟨b, 0, none⟩), .bool true]) ∧ ∃ B', KCH base w' r f v n B' ∧ Keep B u w' ∧ ∀ k, B' k → B k ∨ u.heap.size ≤ k := by
  obtain ⟨es, h1, h2, h3⟩ := h
  obtain ⟨j, hj, ej⟩ := List.getElem_of_mem (h2 i x hi hl)
  refine (ygetH base u r 1024 es B h1 (f i) hk j hj (by rw [ej])).mono ?_
  rintro e w' ⟨he, B', c1, c2, c3⟩
  exact ⟨by rw [he, ej], B', ⟨_, c1, h2.get hj, by rw [List.length_cons, List.length_eraseIdx_of_lt hj]; omega⟩, c2, c3⟩
theorem KCH.kept {base : Nat} {u u' : World} {r : Nat} {f : Nat → (List UInt8)} {v : Nat → (Option Nat)} {t : Nat} {B T : Nat → Prop} (h : KCH base u r f v t B) (k : Keep T u u') (hd : ∀ j, B j → ¬ T j) : KCH base u' r f v t B := by
  obtain ⟨es, h1, h2, h3⟩ := h
  exact ⟨es, h1.kept k hd, h2, h3⟩
theorem KCH.congr {base : Nat} {u : World} {r : Nat} {f : Nat → (List UInt8)} {v v' : Nat → (Option Nat)} {t : Nat} {B : Nat → Prop} (h : KCH base u r f v t B) (hv : ∀ x, x < t → v' x = v x) : KCH base u r f v' t B := by
  obtain ⟨es, h1, h2, h3⟩ := h
  exact ⟨es, h1, h2.congr hv, h3⟩
theorem KCH.lt {base : Nat} {u : World} {r : Nat} {f : Nat → (List UInt8)} {v : Nat → (Option Nat)} {t : Nat} {B : Nat → Prop} (h : KCH base u r f v t B) (k : Nat) (hk : B k) : k < u.heap.size := by
  obtain ⟨es, h1, _⟩ := h
  exact h1.lt k hk
theorem KCH.ge {base : Nat} {u : World} {r : Nat} {f : Nat → (List UInt8)} {v : Nat → (Option Nat)} {t : Nat} {B : Nat → Prop} (h : KCH base u r f v t B) (k : Nat) (hk : B k) : base ≤ k := by
  obtain ⟨es, h1, _⟩ := h
  exact h1.ge k hk
/-- the two caches and the row of what is held -/
structure KS (base : Nat) (u : World) (ra rb hb n : Nat) (fA : Nat → TlK) (vA : Nat → List UInt8) (p : Nat → Nat) (t s : Nat) : Prop where
  ab : ∃ A B, KCT base u ra fA vA t A ∧ KCH base u rb vA (fun i => some (p i)) s B ∧ (∀ k, A k → ¬ B k) ∧ ¬ A hb ∧ ¬ B hb
  hd : ∃ cs : Array Value, u.heap[hb]? = some (.cells cs 36 (0, 0)) ∧ cs.size = n ∧ ∀ j, j < s → cs[j]? = some (.pointer (some ⟨p j, 0, none⟩))
  bh : base ≤ hb
theorem KS.below {base : Nat} {u u' : World} {ra rb hb n : Nat} {fA : Nat → TlK} {vA : Nat → List UInt8} {p : Nat → Nat} {t s : Nat} (h : KS base u ra rb hb n fA vA p t s) (k : Below u.heap.size u u') : KS base u' ra rb hb n fA vA p t s := by
  obtain ⟨⟨A, B, h1, h2, h3, h4, h5⟩, ⟨cs, c1, c2, c3⟩, bh⟩ := h
  exact ⟨⟨A, B, h1.kept (Keep.of_below k (fun _ => False)) (fun _ _ e => e), h2.kept (Keep.of_below k (fun _ => False)) (fun _ _ e => e), h3, h4, h5⟩, ⟨cs, (k.block hb (Array.getElem?_eq_some_iff.1 c1).1).trans c1, c2, c3⟩, bh⟩
theorem KS.store {base : Nat} {u : World} {ra rb hb n : Nat} {fA : Nat → TlK} {vA : Nat → List UInt8} {p : Nat → Nat} {t s : Nat} (h : KS base u ra rb hb n fA vA p t s) (hs : s < n) (q : Nat) :
    KS base (u.setCell ⟨hb, s, none⟩ (.pointer (some ⟨q, 0, none⟩))) ra rb hb n fA vA p t s ∧ (∃ cs : Array Value, (u.setCell ⟨hb, s, none⟩ (.pointer (some ⟨q, 0, none⟩))).heap[hb]? = some (.cells cs 36 (0, 0)) ∧ cs[s]? = some (.pointer (some ⟨q, 0, none⟩))) ∧ Keep (fun j => j = hb) u (u.setCell ⟨hb, s, none⟩ (.pointer (some ⟨q, 0, none⟩))) := by
  obtain ⟨⟨A, B, h1, h2, h3, h4, h5⟩, ⟨cs, c1, c2, c3⟩, bh⟩ := h
  have k : Keep (fun j => j = hb) u (u.setCell ⟨hb, s, none⟩ (.pointer (some ⟨q, 0, none⟩))) := Keep.setCell u ⟨hb, s, none⟩ _
  have x : (u.setCell ⟨hb, s, none⟩ (.pointer (some ⟨q, 0, none⟩))).heap[hb]? = some (.cells (cs.setIfInBounds s (.pointer (some ⟨q, 0, none⟩))) 36 (0, 0)) := by simp [World.setCell, Array.getElem?_modify, c1]
  exact ⟨⟨⟨A, B, h1.kept k (fun j hj e => h4 (by rw [← show j = hb from e]; exact hj)), h2.kept k (fun j hj e => h5 (by rw [← show j = hb from e]; exact hj)), h3, h4, h5⟩, ⟨_, x, by simp [c2], fun j hj => by rw [Array.getElem?_setIfInBounds_ne (by omega)]; exact c3 j hj⟩, bh⟩, ⟨_, x, Array.getElem?_setIfInBounds_self_of_lt (by rw [c2]; exact hs)⟩, k⟩
theorem szTl (k : TlK) : (Tryd.prog.info? 30).map (·.size) = some (kcT k).length := by rw [lenT]; kernel_rfl
theorem ksPutT (base : Nat) (u : World) (ra rb hb n : Nat) (fA : Nat → TlK) (vA : Nat → List UInt8) (p : Nat → Nat) (t s : Nat) (h : KS base u ra rb hb n fA vA p t s) (hbs : base ≤ u.heap.size) (ht : t < 1000) (hk : kwT (fA t)) (hx : (vA t).length = 32) :
    Calls Tryd.prog 9 #[.pointer (some ⟨ra, 0, none⟩), .agg (kcT (fA t)).toArray, .agg (bcells (vA t)).toArray] u fun e w' => ∃ z, e = .returned z ∧ KS base w' ra rb hb n fA vA p (t + 1) s ∧ Below base u w' ∧ w'.heap[hb]? = u.heap[hb]? := by
  obtain ⟨⟨A, B, h1, h2, h3, h4, h5⟩, ⟨cs, c1, c2, c3⟩, bh⟩ := h
  refine (kputT base u ra fA vA t A h1 hbs ht hk hx).mono ?_
  rintro e w' ⟨z, he, A', d1, d2, d3⟩
  have hl := (Array.getElem?_eq_some_iff.1 c1).1
  exact ⟨z, he, ⟨⟨A', B, d1, h2.kept d2 (fun j hj e => h3 j e hj), fun k hk2 hB => by
    rcases d3 k hk2 with q | q
    · exact h3 k q hB
    · have := h2.lt k hB; omega, fun e => by
    rcases d3 hb e with q | q
    · exact h4 q
    · omega, h5⟩, ⟨cs, (d2.block hb hl h4).trans c1, c2, c3⟩, bh⟩, d2.below hbs h1.ge, d2.block hb hl h4⟩
theorem ksPutH (base : Nat) (u : World) (ra rb hb n : Nat) (fA : Nat → TlK) (vA : Nat → List UInt8) (p : Nat → Nat) (t s : Nat) (h : KS base u ra rb hb n fA vA p t s) (hbs : base ≤ u.heap.size) (hs : s < 1000) (hk : kwH (vA s)) (q : Nat) (hq : ∃ cs : Array Value, u.heap[hb]? = some (.cells cs 36 (0, 0)) ∧ cs[s]? = some (.pointer (some ⟨q, 0, none⟩))) :
    Calls Tryd.prog 10 #[.pointer (some ⟨rb, 0, none⟩), .agg (bcells (vA s)).toArray, .pointer (some ⟨q, 0, none⟩)] u fun e w' => ∃ z, e = .returned z ∧ (∃ p', KS base w' ra rb hb n fA vA p' t (s + 1)) ∧ Below base u w' := by
  obtain ⟨⟨A, B, h1, h2, h3, h4, h5⟩, ⟨cs, c1, c2, c3⟩, bh⟩ := h
  obtain ⟨cs', q1, q2⟩ := hq
  rw [c1] at q1
  obtain rfl : cs = cs' := by injection q1 with q1; injection q1
  have ev : (fun i => some (if i = s then q else p i)) s = some q := by simp
  have h2' : KCH base u rb vA (fun i => some (if i = s then q else p i)) s B := h2.congr (fun x hx => by simp [Nat.ne_of_lt hx])
  have cc := kputH base u rb vA (fun i => some (if i = s then q else p i)) s B h2' hbs hs hk
  simp only [if_true] at cc
  refine cc.mono ?_
  rintro e w' ⟨z, he, B', d1, d2, d3⟩
  have hl := (Array.getElem?_eq_some_iff.1 c1).1
  exact ⟨z, he, ⟨fun i => if i = s then q else p i, ⟨⟨A, B', h1.kept d2 (fun j hj e => h3 j hj e), d1, fun k hA hk2 => by
    rcases d3 k hk2 with q | q
    · exact h3 k hA q
    · have := h1.lt k hA; omega, h4, fun e => by
    rcases d3 hb e with q | q
    · exact h5 q
    · omega⟩, ⟨cs, (d2.block hb hl h5).trans c1, c2, fun j hj => by
      by_cases e : j = s
      · subst e; simp only [if_true]; exact q2
      · rw [if_neg e]; exact c3 j (by omega)⟩, bh⟩⟩, d2.below hbs h2.ge⟩
theorem ksGetT (base : Nat) (u : World) (ra rb hb n : Nat) (fA : Nat → TlK) (vA : Nat → List UInt8) (p : Nat → Nat) (m : Nat) (h : KS base u ra rb hb n fA vA p m m) (hbs : base ≤ u.heap.size) (i x : Nat) (hi : i < m) (hl : IsLast fA i m x) (hk : kwT (fA i)) :
    Calls Tryd.prog 11 #[.pointer (some ⟨ra, 0, none⟩), .agg (kcT (fA i)).toArray] u fun e w' => e = .returned (.tuple #[.agg (bcells (vA x)).toArray, .bool true]) ∧ KS base w' ra rb hb n fA vA p m m ∧ Below base u w' := by
  obtain ⟨⟨A, B, h1, h2, h3, h4, h5⟩, ⟨cs, c1, c2, c3⟩, bh⟩ := h
  refine (kgetT base u ra fA vA m A h1 i x hi hl hk).mono ?_
  rintro e w' ⟨he, A', d1, d2, d3⟩
  have hl := (Array.getElem?_eq_some_iff.1 c1).1
  exact ⟨he, ⟨⟨A', B, d1, h2.kept d2 (fun j hj e => h3 j e hj), fun k hk2 hB => by
    rcases d3 k hk2 with q | q
    · exact h3 k q hB
    · have := h2.lt k hB; omega, fun e => by
    rcases d3 hb e with q | q
    · exact h4 q
    · omega, h5⟩, ⟨cs, (d2.block hb hl h4).trans c1, c2, c3⟩, bh⟩, d2.below hbs h1.ge⟩
theorem ksGetH (base : Nat) (u0 u : World) (ra rb hb n : Nat) (fA : Nat → TlK) (vA : Nat → List UInt8) (p : Nat → Nat) (m : Nat) (h : KS base u0 ra rb hb n fA vA p m m) (kb : Below u0.heap.size u0 u) (hbs : base ≤ u.heap.size) (i x : Nat) (hi : i < m) (hl : IsLast vA i m x) (hk : kwH (vA i)) :
    Calls Tryd.prog 12 #[.pointer (some ⟨rb, 0, none⟩), .agg (bcells (vA i)).toArray] u fun e w' => e = .returned (.tuple #[.pointer (some ⟨p x, 0, none⟩), .bool true]) ∧ KS base w' ra rb hb n fA vA p m m ∧ Below base u w' ∧ ∀ G, u0.heap.size ≤ G → G < u.heap.size → w'.heap[G]? = u.heap[G]? := by
  obtain ⟨⟨A, B, h1, h2, h3, h4, h5⟩, ⟨cs, c1, c2, c3⟩, bh⟩ := h
  have lB := h2.lt
  have h1 := h1.kept (Keep.of_below kb (fun _ => False)) (fun _ _ e => e)
  have h2 := h2.kept (Keep.of_below kb (fun _ => False)) (fun _ _ e => e)
  have c1 := (kb.block hb (Array.getElem?_eq_some_iff.1 c1).1).trans c1
  refine (kgetH base u rb vA (fun i => some (p i)) m B h2 i x hi hl hk).mono ?_
  rintro e w' ⟨he, B', d1, d2, d3⟩
  have hl := (Array.getElem?_eq_some_iff.1 c1).1
  exact ⟨he, ⟨⟨A, B', h1.kept d2 (fun j hj e => h3 j hj e), d1, fun k hA hk2 => by
    rcases d3 k hk2 with q | q
    · exact h3 k hA q
    · have := h1.lt k hA; omega, h4, fun e => by
    rcases d3 hb e with q | q
    · exact h5 q
    · omega⟩, ⟨cs, (d2.block hb hl h5).trans c1, c2, c3⟩, bh⟩, d2.below hbs h2.ge, fun G g1 g2 => d2.block G g2 (fun e => by have := lB G e; omega)⟩
/-- a thing that came in -/
abbrev Thg := TlK × List UInt8
/-- a slice that reads as things -/
def ThsC (w : World) (v : Value) (us : List Thg) : Prop :=
  ∃ (a : Option Addr) (cap : Nat), v = .slice a us.length cap ∧ us.length ≤ cap ∧ cap ≤ maxLen ∧ (∀ u ∈ us, kwT u.1 ∧ u.2.length = 32 ∧ kwH u.2) ∧
    (us ≠ [] → ∃ B off, a = some ⟨B, off, none⟩ ∧ B < w.heap.size ∧ ∀ i, (h : i < us.length) → w.rangeAt B (off + i * 35) (kcT us[i].1) ∧ w.rangeAt B (off + i * 35 + 3) (bcells us[i].2))
end Go.Proofs.YtdepmjgibenejaaDoor
