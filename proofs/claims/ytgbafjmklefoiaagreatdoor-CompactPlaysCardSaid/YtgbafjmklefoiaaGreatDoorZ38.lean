/- cartularylaw01.Beyond. cartularylaw09.CompactPlays walked. -/
import Derived.Test.YtgbafjmklefoiaaGreatDoorChecked
import Derived.Test.YtgbafjmklefoiaaGreatDoorZ02
import Derived.WalkKit
import Derived.LoopTactic
import Derived.Test.YtgbafjmklefoiaaGreatDoorZ37
import Derived.Test.YtgbafjmklefoiaaGreatDoorZ32
import Derived.Test.YtgbafjmklefoiaaGreatDoorZ31
section
namespace Go.Proofs.YtgbafjmklefoiaaGreatDoor
set_option maxRecDepth 100000
open Go.RowKit
/-- a value that reads as whole numbers from nought on -/
def Ints (w : World) (v : Value) (xs : List Nat) : Prop :=
  ∃ (a : Option Addr) (cap : Nat), v = .slice a xs.length cap ∧ xs.length ≤ cap ∧ cap ≤ maxLen ∧
    (xs ≠ [] → ∃ B off, a = some ⟨B, off, none⟩ ∧ B < w.heap.size ∧ ∀ i, (h : i < xs.length) → w.cell? ⟨B, off + i, none⟩ = some (.int .i64 (xs[i] : Int)))
theorem sum_take_succ (xs : List Nat) (t : Nat) (h : t < xs.length) : (xs.take (t + 1)).sum = (xs.take t).sum + xs[t] := by
  rw [List.take_succ_eq_append_getElem h, List.sum_append]; simp
theorem sum_take_le (xs : List Nat) (t : Nat) : (xs.take t).sum ≤ xs.sum := by
  conv => rhs; rw [← List.take_append_drop t xs]
  rw [List.sum_append]; omega
set_option maxHeartbeats 800000 in
theorem beyond_any (w : World) (v : Value) (xs : List Nat) (hv' : Ints w v xs) (hx : xs.sum < 9223372036854775808) :
    Calls Tryz.prog 4 #[v] w fun e w' => e = .returned (.bool (decide (1048576 < xs.sum))) ∧ w = w' := by
  obtain ⟨a0, c0, rfl, hc1, hc2, hcs⟩ := hv'
  have CS := Bx.mk hcs; have HX := Bx.mk hx
  unfold maxLen at hc2
  clear hcs hx
  go_enter Tryz.func4, Tryz.ntmps4
  go_wp2_with fail
  go_loopw [3, 4] (fun n i wr => ∃ t : Nat, t ≤ xs.length ∧ i = .int .i64 (t : Int) ∧ n = .int .i64 ((xs.take t).sum : Int) ∧ (xs.take t).sum ≤ 1048576 ∧ wr = w) (fun _ i _ => xs.length - (intOf i).toNat)
  case atStart => exact ⟨0, Nat.zero_le _, rfl, rfl, by simp, rfl⟩
  case round =>
    obtain ⟨t, ht, rfl, rfl, hle, rfl⟩ := hrel
    by_cases hlt : t < xs.length
    · obtain ⟨B, off, rfl, hB, hcc⟩ := CS.out (by rintro rfl; simp at hlt)
      have hcell := hcc t hlt
      have h1 := sum_take_succ xs t hlt
      have h2 := sum_take_le xs (t + 1)
      have h3 := HX.out
      clear hcc
      generalize hq : xs[t] = x at hcell h1 h3
      generalize hp : (xs.take t).sum = s at h1 hle ⊢
      generalize hp3 : (xs.take (t + 1)).sum = s' at h1 h2
      have HP3 := Bx.mk hp3
      clear hp3 hp hq HX CS
      by_cases hgt : 1048576 < s + x
      · go_wp2_with fail
        go_ret
        have : 1048576 < xs.sum := by omega
        simp [this]
      · go_wp2_with fail
        go_roundw
        case rel => exact ⟨t + 1, hlt, by go_num, by rw [HP3.out]; go_num, by rw [HP3.out]; omega, by first | rfl | trivial⟩
        case measure => simp [intOf]; omega
    · obtain rfl : t = xs.length := by omega
      rw [List.take_length] at hle ⊢
      go_wp2_with fail
      go_ret
      have : ¬ 1048576 < xs.sum := by omega
      simp [this]
theorem ints_one (w : World) (k n : Nat) (hn : n = w.heap.size) : Ints (w.alloc (.cells #[.int .i64 (k : Int)] 3)) (.slice (some ⟨n, 0, none⟩) 1 1) [k] := by
  subst hn
  exact ⟨_, 1, rfl, Nat.le_refl _, by simp [maxLen], fun _ => ⟨w.heap.size, 0, rfl, by simp, fun i hi => by
    obtain rfl : i = 0 := by simpa using hi
    rw [World.cell?_alloc_at _ _ _ _ rfl]; rfl⟩⟩
end Go.Proofs.YtgbafjmklefoiaaGreatDoor
end
section
namespace Go.Proofs.YtgbafjmklefoiaaGreatDoor
set_option maxRecDepth 100000
open Go.RowKit
theorem Ec9.below {A : Nat → Addr} {w w' : World} (h : Ec9 A w) (k : Below w.heap.size w w') : Ec9 A w' := ⟨h.er.below k, h.ts.below k, h.tz.below h.lt k, Nat.lt_of_lt_of_le h.lt k.size⟩
/-- the world and a book -/
def PX9 (base : Nat) (u : World) (wb kb q : Nat) : Prop := ∃ D b n0, CW base u wb D ∧ CB base u kb n0 b ∧ (∀ k, D.F wb k → ¬ b.F kb k) ∧ n0 ≤ q
theorem PX9.below {base : Nat} {u u' : World} {wb kb q : Nat} (h : PX9 base u wb kb q) (k : Below u.heap.size u u') : PX9 base u' wb kb q := by
  obtain ⟨D, b, n0, h1, h2, h3, h4⟩ := h
  exact ⟨D, b, n0, h1.below k, h2.kept (Keep.of_below k (fun _ => False)) (fun _ _ e => e), h3, h4⟩
theorem PX9.mono {base : Nat} {u : World} {wb kb q q' : Nat} (h : PX9 base u wb kb q) (hq : q ≤ q') : PX9 base u wb kb q' := by
  obtain ⟨D, b, n0, h1, h2, h3, h4⟩ := h
  exact ⟨D, b, n0, h1, h2, h3, Nat.le_trans h4 hq⟩
theorem doesX9 (A : Nat → Addr) (base : Nat) (u : World) (wb kb q : Nat) (h : PX9 base u wb kb q) (hb : base ≤ u.heap.size) (hE : ∀ u', Below base u u' → Ec9 A u') (kd wh wi : Int) (nn sb se : Nat) (hnn : nn < 2 ^ 64) (ha : Option Addr) (hl hc : Nat) (hs : List (List UInt8))
    (hH : ∀ u', Below base u u' → Hss u' (.slice ha hl hc) hs) (hnil : ha = none → hc = 0 ∧ hl = 0) (hlm : hl ≤ 4398046510976) :
    Calls Tryz.prog 7 #[.pointer (some ⟨wb, 0, none⟩), .agg #[.int .i64 kd, .int .i64 wh, .int .i64 wi, .int .u64 (nn : Int), .int .u64 (sb : Int), .int .u64 (se : Int), .slice ha hl hc]] u fun e w' => e = .returned (.bool true) ∧ PX9 base w' wb kb q ∧ Below base u w' := by
  obtain ⟨D, b, n0, h1, h2, h3, h4⟩ := h
  refine (does9_any A base u wb D h1 hb hE kd wh wi nn sb se hnn ha hl hc hs hH hnil hlm).mono ?_
  rintro e w' ⟨he, D', c1, c2, c3⟩
  refine ⟨he, ⟨D', b, n0, c1, h2.kept c2 (fun j hj e => h3 j e hj), fun k hk e => ?_, h4⟩, c2.below hb h1.ge⟩
  rcases c3 k hk with c | c
  · exact h3 k c e
  · have := h2.lt k e; omega
theorem standsX9 (base : Nat) (u : World) (wb kb q : Nat) (h : PX9 base u wb kb q) (hb : base ≤ u.heap.size) (hq : q ≤ 90000000) :
    Calls Tryz.prog 8 #[.pointer (some ⟨wb, 0, none⟩), .pointer (some ⟨kb, 0, none⟩)] u fun e w' => e = .returned (.bool true) ∧ PX9 base w' wb kb (q + 4) ∧ Below base u w' := by
  obtain ⟨D, b, n0, h1, h2, h3, h4⟩ := h
  refine (stands9_any base u wb kb n0 D b h1 h2 h3 hb (by omega)).mono ?_
  rintro e w' ⟨he, b', c1, c2, c3, c4, c5⟩
  exact ⟨he, ⟨D, b', n0 + 4, c1, c2, c3, by omega⟩, c4.below hb h2.ge⟩
def zeroB : Nat → Value := fun _ => .slice none 0 0
theorem PX9.first {base : Nat} {u : World} {wb kb : Nat} {D : CD} (h : CW base u wb D) (hk : BkP u kb 0 zeroB) (hb : base ≤ kb) (hd : ¬ D.F wb kb) : PX9 base u wb kb 0 :=
  ⟨D, _, 0, h, CB.first (by exact hk) hb, fun k hf e => by
    rcases e with rfl | e | ⟨i, hi, _⟩
    · exact hd hf
    · cases e
    · exact absurd hi (Nat.not_lt_zero _), Nat.le_refl _⟩
/-- the world, a book, and one that is new -/
def PL9 (base : Nat) (u : World) (wb kb lb q : Nat) : Prop := ∃ D b n0, CW base u wb D ∧ CB base u kb n0 b ∧ (∀ k, D.F wb k → ¬ b.F kb k) ∧ n0 ≤ q ∧ BkP u lb 0 zeroB ∧ ¬ D.F wb lb ∧ ¬ b.F kb lb
theorem PL9.of {base : Nat} {u u' : World} {wb kb lb q : Nat} (h : PX9 base u wb kb q) (k : Below u.heap.size u u') (hk : BkP u' lb 0 zeroB) (hl : u.heap.size ≤ lb) : PL9 base u' wb kb lb q := by
  obtain ⟨D, b, n0, h1, h2, h3, h4⟩ := h
  exact ⟨D, b, n0, h1.below k, h2.kept (Keep.of_below k (fun _ => False)) (fun _ _ e => e), h3, h4, hk, fun e => by have := h1.lt lb e; omega, fun e => by have := h2.lt lb e; omega⟩
theorem BkP.ltL {u : World} {lb : Nat} {l : Nat → Value} (h : BkP u lb 0 l) : lb < u.heap.size := (Array.getElem?_eq_some_iff.1 h.hb).1
theorem standsL9 (base : Nat) (u : World) (wb kb lb q : Nat) (h : PL9 base u wb kb lb q) (hb : base ≤ u.heap.size) (hq : q ≤ 90000000) :
    Calls Tryz.prog 8 #[.pointer (some ⟨wb, 0, none⟩), .pointer (some ⟨kb, 0, none⟩)] u fun e w' => e = .returned (.bool true) ∧ PL9 base w' wb kb lb (q + 4) ∧ Below base u w' := by
  obtain ⟨D, b, n0, h1, h2, h3, h4, h5, h6, h7⟩ := h
  refine (stands9_any base u wb kb n0 D b h1 h2 h3 hb (by omega)).mono ?_
  rintro e w' ⟨he, b', c1, c2, c3, c4, c5⟩
  exact ⟨he, ⟨D, b', n0 + 4, c1, c2, c3, by omega, ⟨(c4.block lb h5.ltL h7).trans h5.hb⟩, h6, fun e => by
    rcases c5 lb e with c | c
    · exact h7 c
    · have := h5.ltL; omega⟩, c4.below hb h2.ge⟩
theorem apartL9 (base : Nat) (u : World) (wb kb lb q : Nat) (h : PL9 base u wb kb lb q) (hb : base ≤ u.heap.size) (hl : base ≤ lb) (hq : q ≤ 90000000) :
    Calls Tryz.prog 9 #[.pointer (some ⟨kb, 0, none⟩)] u fun e w' => e = .returned (.bool true) ∧ PX9 base w' wb lb 0 ∧ Below base u w' := by
  obtain ⟨D, b, n0, h1, h2, h3, h4, h5, h6, h7⟩ := h
  refine (apart9_any base u kb n0 b h2 hb (by omega)).mono ?_
  rintro e w' ⟨he, hk⟩
  exact ⟨he, PX9.first (h1.kept hk h3) ⟨(hk.block lb h5.ltL h7).trans h5.hb⟩ hl h6, hk.below hb h2.ge⟩
/-- an op that came in -/
structure OpC where
  kd : Int
  wh : Int
  wi : Int
  nn : Nat
  sb : Nat
  se : Nat
  ha : Option Addr
  hl : Nat
  hc : Nat
  hs : List (List UInt8)
def opcs (u : OpC) : List Value := [.int .i64 u.kd, .int .i64 u.wh, .int .i64 u.wi, .int .u64 (u.nn : Int), .int .u64 (u.sb : Int), .int .u64 (u.se : Int), .slice u.ha u.hl u.hc]
/-- a slice that reads as ops -/
def OpsC (w : World) (v : Value) (us : List OpC) : Prop :=
  ∃ (a : Option Addr) (cap : Nat), v = .slice a us.length cap ∧ us.length ≤ cap ∧ cap ≤ maxLen ∧ (∀ u ∈ us, u.nn < 2 ^ 64 ∧ Hss w (.slice u.ha u.hl u.hc) u.hs ∧ (u.ha = none → u.hc = 0 ∧ u.hl = 0) ∧ u.hl ≤ 4398046510976) ∧
    (us ≠ [] → ∃ B off, a = some ⟨B, off, none⟩ ∧ B < w.heap.size ∧ ∀ i, (h : i < us.length) → w.rangeAt B (off + i * 7) (opcs us[i]))
theorem OpsC.below {w w' : World} {v : Value} {us : List OpC} (h : OpsC w v us) (k : Below w.heap.size w w') : OpsC w' v us := by
  obtain ⟨a, cap, h1, h2, h3, h4, h5⟩ := h
  refine ⟨a, cap, h1, h2, h3, fun u hu => ⟨(h4 u hu).1, (h4 u hu).2.1.below k, (h4 u hu).2.2⟩, fun hn => ?_⟩
  obtain ⟨B, off, e, hB, hr⟩ := h5 hn
  exact ⟨B, off, e, Nat.lt_of_lt_of_le hB k.size, fun i hi => rangeAt_below (hr i hi) hB k⟩
theorem OpsC.at {w : World} {a : Option Addr} {n cap : Nat} {us : List OpC} (h : OpsC w (.slice a n cap) us) {t : Nat} (ht : t < us.length) : ∃ B off, a = some ⟨B, off, none⟩ ∧ B < w.heap.size ∧ w.rangeAt B (off + t * 7) (opcs us[t]) := by
  obtain ⟨a', cap', e, _, _, _, h5⟩ := h
  injection e with e1 e2 e3
  subst e1
  obtain ⟨B, off, e, hB, hr⟩ := h5 (by intro e; rw [e] at ht; cases ht)
  exact ⟨B, off, e, hB, hr t ht⟩
def C8 (f : Nat → Value) : Array Value := #[f 0, f 1, f 2, f 3, f 4, f 5, f 6, f 7]
theorem C8_set (f : Nat → Value) {j : Nat} (hj : j < 8) (v : Value) : (C8 f).setIfInBounds j v = C8 (updC f j v) := by
  rcases (show j = 0 ∨ j = 1 ∨ j = 2 ∨ j = 3 ∨ j = 4 ∨ j = 5 ∨ j = 6 ∨ j = 7 by omega) with rfl | rfl | rfl | rfl | rfl | rfl | rfl | rfl <;> rfl
theorem C8_get (f : Nat → Value) {j : Nat} (hj : j < 8) : (C8 f)[j]? = some (f j) := by
  rcases (show j = 0 ∨ j = 1 ∨ j = 2 ∨ j = 3 ∨ j = 4 ∨ j = 5 ∨ j = 6 ∨ j = 7 by omega) with rfl | rfl | rfl | rfl | rfl | rfl | rfl | rfl <;> rfl
/-- so many of the four are there -/
def Put9 (base : Nat) (u : World) (wb k : Nat) : Prop := ∃ (f : Nat → Value) (r d : Nat → Nat), u.heap[wb]? = some (.cells (C8 f) 30 (0, 0)) ∧ (∀ i, i < k → f i = .pointer (some ⟨r i, 0, none⟩) ∧ f (4 + i) = .pointer (some ⟨d i, 0, none⟩)) ∧
  (∀ i, i < k → RaP base u (r i) i i [] (.slice none 0 0) ∧ RmP base u (d i) i i [] (.slice none 0 0)) ∧ ∀ i j, i < j → j < k → r i ≠ r j ∧ d i ≠ d j
theorem typ9 {u : World} {x y : Nat} {c c' : Array Value} {T T' : TypeId} (h1 : u.heap[x]? = some (.cells c T (0, 0))) (h2 : u.heap[y]? = some (.cells c' T' (0, 0))) (hT : T ≠ T') : x ≠ y := fun e => by
  rw [e, h2] at h1
  injection h1 with h1
  injection h1 with _ h1 _
  exact hT h1.symm
theorem Put9.all {base : Nat} {u : World} {wb : Nat} (h : Put9 base u wb 4) (hw : base ≤ wb) : ∃ D, CW base u wb D := by
  obtain ⟨f, r, d, h1, h2, h3, h4⟩ := h
  have hR : ∀ i k, RaS (r i) (.slice none 0 0) k → k = r i := fun i k h => RaS_nil h
  have hM : ∀ i k, RmS (d i) (.slice none 0 0) k → k = d i := fun i k h => RmS_nil h
  refine ⟨⟨r, d, fun i => i, fun i => i, fun _ => [], fun _ => .slice none 0 0, fun _ => .slice none 0 0⟩, ⟨?_, hw, fun i hi => (h3 i hi).1, fun i hi => (h3 i hi).2, fun i _ => StC.new i, fun i hi => by show i < _; omega, fun i j hi hj hij k e1 e2 => ?_, fun i j hi hj hij k e1 e2 => ?_, fun i j hi hj k e1 e2 => ?_, fun i hi => ⟨fun e => ?_, fun e => ?_⟩⟩⟩
  · rw [h1]
    have e := h2 0 (by decide); have e1 := h2 1 (by decide); have e2 := h2 2 (by decide); have e3 := h2 3 (by decide)
    show some (Obj.cells #[f 0, f 1, f 2, f 3, f (4 + 0), f (4 + 1), f (4 + 2), f (4 + 3)] _ _) = _
    rw [e.1, e.2, e1.1, e1.2, e2.1, e2.2, e3.1, e3.2]
    rfl
  · have a1 := hR i k e1; have a2 := hR j k e2
    rcases Nat.lt_or_gt_of_ne hij with h | h
    · exact (h4 i j h hj).1 (a1.symm.trans a2)
    · exact (h4 j i h hi).1 (a2.symm.trans a1)
  · have a1 := hM i k e1; have a2 := hM j k e2
    rcases Nat.lt_or_gt_of_ne hij with h | h
    · exact (h4 i j h hj).2 (a1.symm.trans a2)
    · exact (h4 j i h hi).2 (a2.symm.trans a1)
  · exact typ9 (h3 i hi).1.hb (h3 j hj).2.hb (by decide) ((hR i k e1).symm.trans (hM j k e2))
  · exact typ9 (h3 i hi).1.hb h1 (by decide) (hR i wb e).symm
  · exact typ9 (h3 i hi).2.hb h1 (by decide) (hM i wb e).symm
theorem Put9.next {base : Nat} {u u' : World} {wb k : Nat} {f : Nat → Value} {r d : Nat → Nat} (h1 : u.heap[wb]? = some (.cells (C8 f) 30 (0, 0))) (h2 : ∀ i, i < k → f i = .pointer (some ⟨r i, 0, none⟩) ∧ f (4 + i) = .pointer (some ⟨d i, 0, none⟩)) (h3 : ∀ i, i < k → RaP base u (r i) i i [] (.slice none 0 0) ∧ RmP base u (d i) i i [] (.slice none 0 0)) (h4 : ∀ i j, i < j → j < k → r i ≠ r j ∧ d i ≠ d j)
    (hk : k < 4) (kp : Keep (fun j => j = wb) u u') {b1 d1 : Nat} (hc : u'.heap[wb]? = some (.cells (((C8 f).setIfInBounds k (.pointer (some ⟨b1, 0, none⟩))).setIfInBounds (4 + k) (.pointer (some ⟨d1, 0, none⟩))) 30 (0, 0))) (hR : RaP base u' b1 k k [] (.slice none 0 0)) (hM : RmP base u' d1 k k [] (.slice none 0 0)) (hb1 : u.heap.size ≤ b1) (hd1 : u.heap.size ≤ d1) : Put9 base u' wb (k + 1) := by
  have lt : ∀ i, i < k → r i < u.heap.size ∧ d i < u.heap.size := fun i hi => ⟨(h3 i hi).1.lt _ (.inl rfl), (h3 i hi).2.lt _ (.inl rfl)⟩
  refine ⟨updC (updC f k (.pointer (some ⟨b1, 0, none⟩))) (4 + k) (.pointer (some ⟨d1, 0, none⟩)), updC r k b1, updC d k d1, ?_, fun i hi => ?_, fun i hi => ?_, fun i j hij hj => ?_⟩
  · rw [hc, C8_set f (by omega), C8_set _ (by omega)]
  · by_cases e : i = k
    · subst e
      rw [updC_at, updC_at, updC_ne (show i ≠ 4 + i by omega), updC_at, updC_at]
      exact ⟨rfl, rfl⟩
    · rw [updC_ne e, updC_ne e, updC_ne (show i ≠ 4 + k by omega), updC_ne e, updC_ne (show 4 + i ≠ 4 + k by omega), updC_ne (show 4 + i ≠ k by omega)]
      exact h2 i (by omega)
  · by_cases e : i = k
    · subst e
      rw [updC_at, updC_at]; exact ⟨hR, hM⟩
    · rw [updC_ne e, updC_ne e]
      obtain ⟨a1, a2⟩ := h3 i (by omega)
      exact ⟨a1.kept kp (fun j hj e => typ9 a1.hb h1 (by decide) ((RaS_nil hj).symm.trans e)), a2.kept kp (fun j hj e => typ9 a2.hb h1 (by decide) ((RmS_nil hj).symm.trans e))⟩
  · rw [updC_ne (show i ≠ k by omega), updC_ne (show i ≠ k by omega)]
    have := lt i (by omega)
    by_cases e : j = k
    · subst e; rw [updC_at, updC_at]; exact ⟨by omega, by omega⟩
    · rw [updC_ne e, updC_ne e]; exact h4 i j hij (by omega)
def VP7 (wb k base Z : Nat) (cs : Array Value) (oi : Nat) (v : Value) (own : Nat → Option Nat) (w : World) : Prop :=
  match oi with
  | 0 => v = .pointer (some ⟨wb, 0, none⟩)
  | 1 => v = .int .i64 (k : Int)
  | 2 => v = .int .i64 (k : Int)
  | 3 => v = .int .u64 (k : Int)
  | 4 => PtC (fun b => NrC own w base Z b k) v
  | 5 => v = .pointer (some ⟨wb, 0, none⟩)
  | 6 => v = .pointer (some ⟨wb, 0, none⟩)
  | 7 => v = .pointer (some ⟨wb, k, none⟩)
  | 8 => StC8 own w wb 8 (k) cs (fun b => NrC own w base Z b k)
  | _ => True
def VP7mk : Nat → Option Nat := fun _ => none
theorem VP7_mono (wb k base Z : Nat) (cs : Array Value) (oi oj : Nat) (v : Value) (own : Nat → Option Nat) (w : World) (own' : Nat → Option Nat) (w' : World) (hij : oi ≠ oj)   (h : VP7 wb k base Z cs oj v own w) (r1 : Rel VP7mk oi own w own' w') : VP7 wb k base Z cs oj v own' w' := by
  unfold VP7 at h ⊢
  split at h
  · exact h
  · exact h
  · exact h
  · exact h
  · obtain ⟨b, e, h⟩ := h; exact ⟨b, e, h.stable r1⟩
  · exact h
  · exact h
  · exact h
  · obtain ⟨b, h1, h2⟩ := h; exact ⟨b, h1.stable r1 hij, h2.stable r1⟩
  · trivial

def VP8 (wb k base Z : Nat) (cs : Array Value) (oi : Nat) (v : Value) (own : Nat → Option Nat) (w : World) : Prop :=
  match oi with
  | 0 => v = .pointer (some ⟨wb, 0, none⟩)
  | 1 => v = .int .i64 (k : Int)
  | 2 => v = .int .i64 (k : Int)
  | 3 => v = .int .u64 (k : Int)
  | 4 => PtC (fun b => NmC own w base Z b k) v
  | 5 => v = .pointer (some ⟨wb, 0, none⟩)
  | 6 => v = .pointer (some ⟨wb, 4, none⟩)
  | 7 => v = .pointer (some ⟨wb, 4 + k, none⟩)
  | 8 => StC8 own w wb 8 (4 + k) cs (fun b => NmC own w base Z b k)
  | _ => True
def VP8mk : Nat → Option Nat := fun _ => none
theorem VP8_mono (wb k base Z : Nat) (cs : Array Value) (oi oj : Nat) (v : Value) (own : Nat → Option Nat) (w : World) (own' : Nat → Option Nat) (w' : World) (hij : oi ≠ oj)   (h : VP8 wb k base Z cs oj v own w) (r1 : Rel VP8mk oi own w own' w') : VP8 wb k base Z cs oj v own' w' := by
  unfold VP8 at h ⊢
  split at h
  · exact h
  · exact h
  · exact h
  · exact h
  · obtain ⟨b, e, h⟩ := h; exact ⟨b, e, h.stable r1⟩
  · exact h
  · exact h
  · exact h
  · obtain ⟨b, h1, h2⟩ := h; exact ⟨b, h1.stable r1 hij, h2.stable r1⟩
  · trivial

set_option maxHeartbeats 6400000 in
theorem cplays_any (A : Nat → Addr) (w : World) (v : Value) (us : List OpC) (hU : OpsC w v us) (hE : Ec9 A w) :
    Calls Tryz.prog 3 #[v] w fun e w' => e = .returned (.bool true) ∧ Below w.heap.size w w' := by
  obtain ⟨a, cap, rfl, hcap, hcm, hall, hmem⟩ := id hU
  obtain ⟨n, hn⟩ : ∃ n, n = us.length := ⟨_, rfl⟩
  have HN := Bx.mk hn
  have HU := Bx.mk (fun u (hu : Below w.heap.size w u) => hU.below hu)
  have HE := Bx.mk (fun u (hu : Below w.heap.size w u) => hE.below hu)
  have HA := Bx.mk hall
  have NM := Bx.mk (show us.length ≤ maxLen from Nat.le_trans hcap hcm)
  rw [← hn]
  have KA := Bx.mk (er_al (Below.refl w.heap.size w) (.cells #[.int .i64 (n : Int)] 3))
  have hbe := beyond_any (w.alloc (.cells #[.int .i64 (n : Int)] 3)) (.slice (some ⟨w.heap.size, 0, none⟩) 1 1) [n] (ints_one _ _ _ rfl) (by have := NM.out; unfold maxLen at this; simp; omega)
  rw [show ([n] : List Nat).sum = n by simp] at hbe
  clear hU hE hall hmem hcap hcm hn
  go_enter Tryz.func3, Tryz.ntmps3
  by_cases hgt : 1048576 < n
  · rw [show decide (1048576 < n) = true from decide_eq_true hgt] at hbe
    have HBE := Bx.mk hbe
    clear hgt hbe
    go_wp2_with fail
    refine HBE.out.mono ?_
    rintro e w3 ⟨rfl, hb⟩
    subst hb
    go_wp2_with fail
    go_ret
    exact ⟨rfl, KA.out⟩
  rw [show decide (1048576 < n) = false from decide_eq_false hgt] at hbe
  have HBE := Bx.mk hbe
  have NL := Bx.mk (show n ≤ 1048576 by omega)
  clear hgt hbe
  go_wp2_with fail
  refine HBE.out.mono ?_
  rintro e w3 ⟨rfl, hb⟩
  subst hb
  obtain ⟨base, hbs⟩ : ∃ b, b = w.heap.size := ⟨_, rfl⟩
  rw [← hbs] at KA HU HE
  generalize w.alloc (.cells #[.int .i64 (n : Int)] 3) = w1 at KA ⊢
  have S1 := Bx.mk (show base ≤ w1.heap.size from by rw [hbs]; exact KA.out.size)
  have HBS := Bx.mk hbs
  clear hbs HBE
  have kb := er_al (Below.refl w1.heap.size w1) (.cells #[.pointer none, .pointer none, .pointer none, .pointer none, .pointer none, .pointer none, .pointer none, .pointer none] 30)
  have x0 := heap_alloc_new w1 (.cells #[.pointer none, .pointer none, .pointer none, .pointer none, .pointer none, .pointer none, .pointer none, .pointer none] 30)
  go_upto_region 4 with (fail)
  change Code.wp _ _ _ _ (w1.alloc (.cells #[.pointer none, .pointer none, .pointer none, .pointer none, .pointer none, .pointer none, .pointer none, .pointer none] 30))
  generalize w1.alloc (.cells #[.pointer none, .pointer none, .pointer none, .pointer none, .pointer none, .pointer none, .pointer none, .pointer none] 30) = W at kb x0 ⊢
  obtain ⟨wb, hwb⟩ : ∃ x, x = w1.heap.size := ⟨_, rfl⟩
  rw [← hwb] at x0 ⊢
  have KB := Bx.mk (KA.out.trans (kb.mono S1.out)); have BW := Bx.mk (show base ≤ wb by rw [hwb]; exact S1.out); have S0 := Bx.mk (Nat.le_trans S1.out kb.size)
  have P0 : Bx (Put9 base W wb 0) := ⟨⟨fun _ => .pointer none, fun _ => 0, fun _ => 0, x0, fun i hi => absurd hi (Nat.not_lt_zero _), fun i hi => absurd hi (Nat.not_lt_zero _), fun i j _ hj => absurd hj (Nat.not_lt_zero _)⟩⟩
  clear x0 kb hwb KA
  go_wp2_with fail
  go_loopw [4] (fun iv wr => ∃ k : Nat, k ≤ 4 ∧ iv = .int .i64 (k : Int) ∧ Put9 base wr wb k ∧ Below base w wr ∧ base ≤ wr.heap.size) (fun iv _ => 4 - (intOf iv).toNat)
  case atStart => exact ⟨0, Nat.zero_le _, rfl, P0.out, KB.out, S0.out⟩
  case round =>
    obtain ⟨k, hk, rfl, ⟨f0, r0, d0, hp1, hp2, hp3, hp4⟩, hb, hs⟩ := hrel
    have XB := Bx.mk hp1; have LP := Bx.mk hp2; have LB := Bx.mk hp3; have LD := Bx.mk hp4; have LW := Bx.mk hb; have BS := Bx.mk hs
    clear hp1 hp2 hp3 hp4 hb hs
    by_cases hlt : k < 4
    · have K1 := Bx.mk (show (k : Int) < 4 by omega); have K2 := Bx.mk (show ¬ (4 : Int) ≤ (k : Int) by omega)
      have k1 := K1.out; have k2 := K2.out
      have W64 := Bx.mk (show IntKind.u64.wrap (k : Int) = (k : Int) by simp [IntKind.wrap, IntKind.bits, IntKind.signed]; omega)
      have HK := Bx.mk hlt
      have WBL := Bx.mk (Array.getElem?_eq_some_iff.1 XB.out).1
      have CG := Bx.mk (C8_get f0 (show k < 8 by omega))
      clear hlt hk
      go_upto_region 7 with (fail)
      clear k1 k2
      refine wp_region_own8 (n := 73) VP7mk (fun j => if j = wb then some 8 else none) (VP7 wb k base wr.heap.size (C8 f0)) (by kernel_rfl) (by kernel_rfl) rfl (fun j hj => if_neg (by have := WBL.out; omega)) (fun j i hj _ => by cases hj) ?_ ?_ ?_
      · exact fun oi oj v own w own' w' hij _ h r1 => VP7_mono wb k base wr.heap.size (C8 f0) oi oj v own w own' w' hij h r1
      · intro oi o hi f u own hsame hsn hfr hlate hkeep8 hdep
        have hkeep := hkeep8 _ (.inl rfl)
        match oi, hi with
        | 0, hi =>
          cases (show some _ = some o from hi)
          have e3 : f.tmps.getD 3 undef = .pointer (some ⟨wb, 0, none⟩) := hsame.slot 3 (fun i o h => invB2_not 3 (by kernel_rfl) h)
          clear hdep hsame hi hlate hfr hkeep
          exact .inl ⟨wanted_none rfl, showsO_move hsn rfl _ rfl e3⟩
        | 1, hi =>
          cases (show some _ = some o from hi)
          have e4 : f.tmps.getD 4 undef = .int .i64 (k : Int) := hsame.slot 4 (fun i o h => invB2_not 4 (by kernel_rfl) h)
          clear hdep hsame hi hlate hfr hkeep
          exact .inl ⟨wanted_none rfl, showsO_move hsn rfl _ rfl e4⟩
        | 2, hi =>
          cases (show some _ = some o from hi)
          have e4 : f.tmps.getD 4 undef = .int .i64 (k : Int) := hsame.slot 4 (fun i o h => invB2_not 4 (by kernel_rfl) h)
          clear hdep hsame hi hlate hfr hkeep
          exact .inl ⟨wanted_none rfl, showsO_move hsn rfl _ rfl e4⟩
        | 3, hi =>
          cases (show some _ = some o from hi)
          have e20 : (f.tmps.getD 20 undef) = .int .i64 (k : Int) := depO (V := (VP7 wb k base wr.heap.size (C8 f0))) hdep 2 20 (by kernel_rfl) (by kernel_rfl)
          clear hdep hsame hi hlate hfr hkeep
          have c3 := W64.out
          exact .inl ⟨wanted_none rfl, showsO_pure hsn rfl (.int .u64 (k : Int)) (by simp only [execOp, Act.eval]; go_simp) rfl⟩
        | 4, hi =>
          cases (show some _ = some o from hi)
          have e21 : (f.tmps.getD 21 undef) = .int .u64 (k : Int) := depO (V := (VP7 wb k base wr.heap.size (C8 f0))) hdep 3 21 (by kernel_rfl) (by kernel_rfl)
          clear hdep hsame hi hlate hfr hkeep
          have c := (rnew_any u k).mono (fun e w1 ⟨b, h1, h2, h3⟩ => (⟨_, h1, ⟨b, rfl, h2⟩, h3⟩ : ∃ v, e = Ending.returned v ∧ (∃ b, v = Value.pointer (some ⟨b, 0, none⟩) ∧ RaP u.heap.size w1 b k k [] (.slice none 0 0)) ∧ Below u.heap.size u w1))
          exact .inl ⟨wanted_none rfl, showsO_call (R := fun v w' => ∃ b, v = .pointer (some ⟨b, 0, none⟩) ∧ RaP u.heap.size w' b k k [] (.slice none 0 0)) hsn rfl 5 #[.int .u64 (k : Int)] (by simp only [execOp, Act.eval]; go_simp) c (fun v w' ⟨b, e, h⟩ _ => ⟨b, e, h.mono (Nat.le_trans BS.out hsn.size), hsn.top b (h.ge b (.inl rfl)), Nat.le_trans hsn.size (h.ge b (.inl rfl))⟩)⟩
        | 5, hi =>
          cases (show some _ = some o from hi)
          have e18 : (f.tmps.getD 18 undef) = .pointer (some ⟨wb, 0, none⟩) := depO (V := (VP7 wb k base wr.heap.size (C8 f0))) hdep 0 18 (by kernel_rfl) (by kernel_rfl)
          clear hdep hsame hi hlate hfr hkeep
          exact .inl ⟨wanted_none rfl, showsO_pure hsn rfl (.pointer (some ⟨wb, 0, none⟩)) (by simp only [execOp, Act.eval]; go_simp) rfl⟩
        | 6, hi =>
          cases (show some _ = some o from hi)
          have e23 : (f.tmps.getD 23 undef) = .pointer (some ⟨wb, 0, none⟩) := depO (V := (VP7 wb k base wr.heap.size (C8 f0))) hdep 5 23 (by kernel_rfl) (by kernel_rfl)
          clear hdep hsame hi hlate hfr hkeep
          exact .inl ⟨wanted_none rfl, showsO_pure hsn rfl (.pointer (some ⟨wb, 0, none⟩)) (by simp only [execOp, Act.eval]; go_simp) rfl⟩
        | 7, hi =>
          cases (show some _ = some o from hi)
          have e19 : (f.tmps.getD 19 undef) = .int .i64 (k : Int) := depO (V := (VP7 wb k base wr.heap.size (C8 f0))) hdep 1 19 (by kernel_rfl) (by kernel_rfl)
          have e24 : (f.tmps.getD 24 undef) = .pointer (some ⟨wb, 0, none⟩) := depO (V := (VP7 wb k base wr.heap.size (C8 f0))) hdep 6 24 (by kernel_rfl) (by kernel_rfl)
          clear hdep hsame hi hlate hfr hkeep
          have k1 := K1.out; have k2 := K2.out
          exact .inl ⟨wanted_none rfl, showsO_pure hsn rfl (.pointer (some ⟨wb, k, none⟩)) (by simp only [execOp, Act.eval]; go_simp) rfl⟩
        | 8, hi =>
          cases (show some _ = some o from hi)
          have e22 : PtC (fun b => NrC own u base wr.heap.size b k) (f.tmps.getD 22 undef) := depO (V := (VP7 wb k base wr.heap.size (C8 f0))) hdep 4 22 (by kernel_rfl) (by kernel_rfl)
          have e25 : (f.tmps.getD 25 undef) = .pointer (some ⟨wb, k, none⟩) := depO (V := (VP7 wb k base wr.heap.size (C8 f0))) hdep 7 25 (by kernel_rfl) (by kernel_rfl)
          clear hdep hsame hi hlate hfr hkeep
          obtain ⟨b, e22, N22⟩ := e22
          have hbU := (hkeep8 8 (.inl rfl) wb WBL.out (if_pos rfl)).trans XB.out
          have hst := er_cellAt hbU (k) _ CG.out
          have hfr2 := frozenC hbU (k)
          exact .inl ⟨wanted_none rfl, showsO_store_cell hsn hkeep8 rfl wb (k) (C8 f0) 30 XB.out (if_pos rfl) (.pointer (some ⟨b, 0, none⟩)) (by simp only [execOp, Act.eval]; go_simp) (fun h => ⟨b, h, N22.1.kept (Keep.setCell u ⟨wb, k, none⟩ _) (fun j hj e => by have e : j = wb := e; rw [RaS_nil hj] at e; have h3 := N22.2.1; rw [e, hsn.owns wb WBL.out, if_pos rfl] at h3; cases h3), N22.2⟩)⟩
        | n + 9, hi => exact absurd hi (by simp)
      · intro f W3 own hsame hsn hall
        have q18 : f.tmps.getD 18 undef = .pointer (some ⟨wb, 0, none⟩) := finO (V := (VP7 wb k base wr.heap.size (C8 f0))) hall 0 18 rfl
        have q19 : f.tmps.getD 19 undef = .int .i64 (k : Int) := finO (V := (VP7 wb k base wr.heap.size (C8 f0))) hall 1 19 rfl
        have q20 : f.tmps.getD 20 undef = .int .i64 (k : Int) := finO (V := (VP7 wb k base wr.heap.size (C8 f0))) hall 2 20 rfl
        have q21 : f.tmps.getD 21 undef = .int .u64 (k : Int) := finO (V := (VP7 wb k base wr.heap.size (C8 f0))) hall 3 21 rfl
        obtain ⟨b22, q22, N22⟩ := finO (V := (VP7 wb k base wr.heap.size (C8 f0))) hall 4 22 rfl
        have q23 : f.tmps.getD 23 undef = .pointer (some ⟨wb, 0, none⟩) := finO (V := (VP7 wb k base wr.heap.size (C8 f0))) hall 5 23 rfl
        have q24 : f.tmps.getD 24 undef = .pointer (some ⟨wb, 0, none⟩) := finO (V := (VP7 wb k base wr.heap.size (C8 f0))) hall 6 24 rfl
        have q25 : f.tmps.getD 25 undef = .pointer (some ⟨wb, k, none⟩) := finO (V := (VP7 wb k base wr.heap.size (C8 f0))) hall 7 25 rfl
        obtain ⟨bz, ⟨oz, mz⟩, NZ⟩ := finN (V := (VP7 wb k base wr.heap.size (C8 f0))) hall 8 rfl
        obtain rfl := frame_eq hsame [(18, .pointer (some ⟨wb, 0, none⟩)), (19, .int .i64 (k : Int)), (20, .int .i64 (k : Int)), (21, .int .u64 (k : Int)), (22, (.pointer (some ⟨b22, 0, none⟩))), (23, .pointer (some ⟨wb, 0, none⟩)), (24, .pointer (some ⟨wb, 0, none⟩)), (25, .pointer (some ⟨wb, k, none⟩))] (by kernel_rfl) ⟨q18, q19, q20, q21, q22, q23, q24, q25, trivial⟩
        clear hall hsame q18 q19 q20 q21 q22 q23 q24 q25
        simp only [List.foldl, List.setIfInBounds_toArray, List.set_cons_succ, List.set_cons_zero]
        have kp3 := hsn.keepOne
        have XB3 := Bx.mk mz; have NR3 := Bx.mk (And.intro NZ.1 NZ.2.2)
        have KP3 := Bx.mk kp3
        clear hsn kp3 mz oz NZ N22
        clear own
        have XB2 := XB; have BS2 := BS; have WBL2 := WBL
        clear XB BS CG WBL
        go_upto_region 8 with (fail)
        have XB := XB3
        have WBL := Bx.mk (Array.getElem?_eq_some_iff.1 XB.out).1
        have BS := Bx.mk (show base ≤ W3.heap.size from Nat.le_trans BS2.out KP3.out.size)
        have CG := Bx.mk (show ((C8 f0).setIfInBounds k (.pointer (some ⟨bz, 0, none⟩)))[4 + k]? = some (f0 (4 + k)) from (Array.getElem?_setIfInBounds_ne (by omega)).trans (C8_get f0 (by have := HK.out; omega)))
        refine wp_region_own8 (n := 73) VP8mk (fun j => if j = wb then some 8 else none) (VP8 wb k base W3.heap.size ((C8 f0).setIfInBounds k (.pointer (some ⟨bz, 0, none⟩)))) (by kernel_rfl) (by kernel_rfl) rfl (fun j hj => if_neg (by have := WBL.out; omega)) (fun j i hj _ => by cases hj) ?_ ?_ ?_
        · exact fun oi oj v own w own' w' hij _ h r1 => VP8_mono wb k base W3.heap.size ((C8 f0).setIfInBounds k (.pointer (some ⟨bz, 0, none⟩))) oi oj v own w own' w' hij h r1
        · intro oi o hi f u own hsame hsn hfr hlate hkeep8 hdep
          have hkeep := hkeep8 _ (.inl rfl)
          match oi, hi with
          | 0, hi =>
            cases (show some _ = some o from hi)
            have e3 : f.tmps.getD 3 undef = .pointer (some ⟨wb, 0, none⟩) := hsame.slot 3 (fun i o h => invB2_not 3 (by kernel_rfl) h)
            clear hdep hsame hi hlate hfr hkeep
            exact .inl ⟨wanted_none rfl, showsO_move hsn rfl _ rfl e3⟩
          | 1, hi =>
            cases (show some _ = some o from hi)
            have e4 : f.tmps.getD 4 undef = .int .i64 (k : Int) := hsame.slot 4 (fun i o h => invB2_not 4 (by kernel_rfl) h)
            clear hdep hsame hi hlate hfr hkeep
            exact .inl ⟨wanted_none rfl, showsO_move hsn rfl _ rfl e4⟩
          | 2, hi =>
            cases (show some _ = some o from hi)
            have e4 : f.tmps.getD 4 undef = .int .i64 (k : Int) := hsame.slot 4 (fun i o h => invB2_not 4 (by kernel_rfl) h)
            clear hdep hsame hi hlate hfr hkeep
            exact .inl ⟨wanted_none rfl, showsO_move hsn rfl _ rfl e4⟩
          | 3, hi =>
            cases (show some _ = some o from hi)
            have e28 : (f.tmps.getD 28 undef) = .int .i64 (k : Int) := depO (V := (VP8 wb k base W3.heap.size ((C8 f0).setIfInBounds k (.pointer (some ⟨bz, 0, none⟩))))) hdep 2 28 (by kernel_rfl) (by kernel_rfl)
            clear hdep hsame hi hlate hfr hkeep
            have c3 := W64.out
            exact .inl ⟨wanted_none rfl, showsO_pure hsn rfl (.int .u64 (k : Int)) (by simp only [execOp, Act.eval]; go_simp) rfl⟩
          | 4, hi =>
            cases (show some _ = some o from hi)
            have e29 : (f.tmps.getD 29 undef) = .int .u64 (k : Int) := depO (V := (VP8 wb k base W3.heap.size ((C8 f0).setIfInBounds k (.pointer (some ⟨bz, 0, none⟩))))) hdep 3 29 (by kernel_rfl) (by kernel_rfl)
            clear hdep hsame hi hlate hfr hkeep
            have c := (rmnew_any u k).mono (fun e w1 ⟨b, h1, h2, h3⟩ => (⟨_, h1, ⟨b, rfl, h2⟩, h3⟩ : ∃ v, e = Ending.returned v ∧ (∃ b, v = Value.pointer (some ⟨b, 0, none⟩) ∧ RmP u.heap.size w1 b k k [] (.slice none 0 0)) ∧ Below u.heap.size u w1))
            exact .inl ⟨wanted_none rfl, showsO_call (R := fun v w' => ∃ b, v = .pointer (some ⟨b, 0, none⟩) ∧ RmP u.heap.size w' b k k [] (.slice none 0 0)) hsn rfl 6 #[.int .u64 (k : Int)] (by simp only [execOp, Act.eval]; go_simp) c (fun v w' ⟨b, e, h⟩ _ => ⟨b, e, h.mono (Nat.le_trans BS.out hsn.size), hsn.top b (h.ge b (.inl rfl)), Nat.le_trans hsn.size (h.ge b (.inl rfl))⟩)⟩
          | 5, hi =>
            cases (show some _ = some o from hi)
            have e26 : (f.tmps.getD 26 undef) = .pointer (some ⟨wb, 0, none⟩) := depO (V := (VP8 wb k base W3.heap.size ((C8 f0).setIfInBounds k (.pointer (some ⟨bz, 0, none⟩))))) hdep 0 26 (by kernel_rfl) (by kernel_rfl)
            clear hdep hsame hi hlate hfr hkeep
            exact .inl ⟨wanted_none rfl, showsO_pure hsn rfl (.pointer (some ⟨wb, 0, none⟩)) (by simp only [execOp, Act.eval]; go_simp) rfl⟩
          | 6, hi =>
            cases (show some _ = some o from hi)
            have e31 : (f.tmps.getD 31 undef) = .pointer (some ⟨wb, 0, none⟩) := depO (V := (VP8 wb k base W3.heap.size ((C8 f0).setIfInBounds k (.pointer (some ⟨bz, 0, none⟩))))) hdep 5 31 (by kernel_rfl) (by kernel_rfl)
            clear hdep hsame hi hlate hfr hkeep
            exact .inl ⟨wanted_none rfl, showsO_pure hsn rfl (.pointer (some ⟨wb, 4, none⟩)) (by simp only [execOp, Act.eval]; go_simp) rfl⟩
          | 7, hi =>
            cases (show some _ = some o from hi)
            have e27 : (f.tmps.getD 27 undef) = .int .i64 (k : Int) := depO (V := (VP8 wb k base W3.heap.size ((C8 f0).setIfInBounds k (.pointer (some ⟨bz, 0, none⟩))))) hdep 1 27 (by kernel_rfl) (by kernel_rfl)
            have e32 : (f.tmps.getD 32 undef) = .pointer (some ⟨wb, 4, none⟩) := depO (V := (VP8 wb k base W3.heap.size ((C8 f0).setIfInBounds k (.pointer (some ⟨bz, 0, none⟩))))) hdep 6 32 (by kernel_rfl) (by kernel_rfl)
            clear hdep hsame hi hlate hfr hkeep
            have k1 := K1.out; have k2 := K2.out
            exact .inl ⟨wanted_none rfl, showsO_pure hsn rfl (.pointer (some ⟨wb, 4 + k, none⟩)) (by simp only [execOp, Act.eval]; go_simp) rfl⟩
          | 8, hi =>
            cases (show some _ = some o from hi)
            have e30 : PtC (fun b => NmC own u base W3.heap.size b k) (f.tmps.getD 30 undef) := depO (V := (VP8 wb k base W3.heap.size ((C8 f0).setIfInBounds k (.pointer (some ⟨bz, 0, none⟩))))) hdep 4 30 (by kernel_rfl) (by kernel_rfl)
            have e33 : (f.tmps.getD 33 undef) = .pointer (some ⟨wb, 4 + k, none⟩) := depO (V := (VP8 wb k base W3.heap.size ((C8 f0).setIfInBounds k (.pointer (some ⟨bz, 0, none⟩))))) hdep 7 33 (by kernel_rfl) (by kernel_rfl)
            clear hdep hsame hi hlate hfr hkeep
            obtain ⟨b, e30, N30⟩ := e30
            have hbU := (hkeep8 8 (.inl rfl) wb WBL.out (if_pos rfl)).trans XB.out
            have hst := er_cellAt hbU (4 + k) _ CG.out
            have hfr2 := frozenC hbU (4 + k)
            exact .inl ⟨wanted_none rfl, showsO_store_cell hsn hkeep8 rfl wb (4 + k) ((C8 f0).setIfInBounds k (.pointer (some ⟨bz, 0, none⟩))) 30 XB.out (if_pos rfl) (.pointer (some ⟨b, 0, none⟩)) (by simp only [execOp, Act.eval]; go_simp) (fun h => ⟨b, h, N30.1.kept (Keep.setCell u ⟨wb, 4 + k, none⟩ _) (fun j hj e => by have e : j = wb := e; rw [RmS_nil hj] at e; have h3 := N30.2.1; rw [e, hsn.owns wb WBL.out, if_pos rfl] at h3; cases h3), N30.2⟩)⟩
          | n + 9, hi => exact absurd hi (by simp)
        · intro f W4 own hsame hsn hall
          have q26 : f.tmps.getD 26 undef = .pointer (some ⟨wb, 0, none⟩) := finO (V := (VP8 wb k base W3.heap.size ((C8 f0).setIfInBounds k (.pointer (some ⟨bz, 0, none⟩))))) hall 0 26 rfl
          have q27 : f.tmps.getD 27 undef = .int .i64 (k : Int) := finO (V := (VP8 wb k base W3.heap.size ((C8 f0).setIfInBounds k (.pointer (some ⟨bz, 0, none⟩))))) hall 1 27 rfl
          have q28 : f.tmps.getD 28 undef = .int .i64 (k : Int) := finO (V := (VP8 wb k base W3.heap.size ((C8 f0).setIfInBounds k (.pointer (some ⟨bz, 0, none⟩))))) hall 2 28 rfl
          have q29 : f.tmps.getD 29 undef = .int .u64 (k : Int) := finO (V := (VP8 wb k base W3.heap.size ((C8 f0).setIfInBounds k (.pointer (some ⟨bz, 0, none⟩))))) hall 3 29 rfl
          obtain ⟨b30, q30, N30⟩ := finO (V := (VP8 wb k base W3.heap.size ((C8 f0).setIfInBounds k (.pointer (some ⟨bz, 0, none⟩))))) hall 4 30 rfl
          have q31 : f.tmps.getD 31 undef = .pointer (some ⟨wb, 0, none⟩) := finO (V := (VP8 wb k base W3.heap.size ((C8 f0).setIfInBounds k (.pointer (some ⟨bz, 0, none⟩))))) hall 5 31 rfl
          have q32 : f.tmps.getD 32 undef = .pointer (some ⟨wb, 4, none⟩) := finO (V := (VP8 wb k base W3.heap.size ((C8 f0).setIfInBounds k (.pointer (some ⟨bz, 0, none⟩))))) hall 6 32 rfl
          have q33 : f.tmps.getD 33 undef = .pointer (some ⟨wb, 4 + k, none⟩) := finO (V := (VP8 wb k base W3.heap.size ((C8 f0).setIfInBounds k (.pointer (some ⟨bz, 0, none⟩))))) hall 7 33 rfl
          obtain ⟨dz, ⟨oz, mz⟩, NZ⟩ := finN (V := (VP8 wb k base W3.heap.size ((C8 f0).setIfInBounds k (.pointer (some ⟨bz, 0, none⟩))))) hall 8 rfl
          obtain rfl := frame_eq hsame [(26, .pointer (some ⟨wb, 0, none⟩)), (27, .int .i64 (k : Int)), (28, .int .i64 (k : Int)), (29, .int .u64 (k : Int)), (30, (.pointer (some ⟨b30, 0, none⟩))), (31, .pointer (some ⟨wb, 0, none⟩)), (32, .pointer (some ⟨wb, 4, none⟩)), (33, .pointer (some ⟨wb, 4 + k, none⟩))] (by kernel_rfl) ⟨q26, q27, q28, q29, q30, q31, q32, q33, trivial⟩
          clear hall hsame q26 q27 q28 q29 q30 q31 q32 q33
          simp only [List.foldl, List.setIfInBounds_toArray, List.set_cons_succ, List.set_cons_zero]
          have kp4 := hsn.keepOne
          have kk := KP3.out.trans kp4 (fun _ _ h => h)
          have nx := Put9.next XB2.out LP.out LB.out LD.out HK.out kk mz (NR3.out.1.kept kp4 (fun j hj e => by
            have e : j = wb := e
            rw [RaS_nil hj] at e
            have h1 := NR3.out.2
            have h2 := WBL2.out
            omega)) NZ.1 NR3.out.2 (Nat.le_trans KP3.out.size NZ.2.2)
          have NX := Bx.mk nx
          have B4 := Bx.mk (LW.out.trans (kk.below (B := base) BS2.out (fun j e => by have e : j = wb := e; rw [e]; exact BW.out))); have S4 := Bx.mk (Nat.le_trans BS2.out kk.size)
          have c9 := er_cellAt mz k _ ((Array.getElem?_setIfInBounds_ne (by omega)).trans (Array.getElem?_setIfInBounds_self_of_lt (show k < (C8 f0).size by have := HK.out; show k < 8; omega)))
          have k1 := K1.out; have k2 := K2.out
          clear hsn kp4 kk nx mz oz NZ N30
          clear own
          go_wp2_with fail
          go_roundw
          case rel => exact ⟨k + 1, HK.out, (by first | rw [wrap_succB k (by have := HK.out; omega)] | simp), NX.out, B4.out, S4.out⟩
          case measure => have := HK.out; simp [intOf]; omega
    · obtain rfl : k = 4 := by omega
      obtain ⟨D0, hD0⟩ := Put9.all ⟨f0, r0, d0, XB.out, LP.out, LB.out, LD.out⟩ BW.out
      have H0 := Bx.mk hD0
      obtain ⟨w2, hw2⟩ : ∃ w2, w2 = wr := ⟨_, rfl⟩
      rw [← hw2] at H0 LW BS ⊢
      have LW2 := LW; have BS2 := BS
      clear hw2 LW BS hlt hk LP LB LD XB hD0 P0 S0 KB
      have kb := er_al (Below.refl w2.heap.size w2) (.cells #[.int .i64 0, .slice none 0 0, .slice none 0 0, .slice none 0 0, .slice none 0 0, .slice none 0 0, .slice none 0 0, .slice none 0 0, .slice none 0 0, .slice none 0 0, .slice none 0 0, .slice none 0 0, .slice none 0 0, .slice none 0 0, .slice none 0 0, .slice none 0 0, .slice none 0 0] 51)
      have x0 := heap_alloc_new w2 (.cells #[.int .i64 0, .slice none 0 0, .slice none 0 0, .slice none 0 0, .slice none 0 0, .slice none 0 0, .slice none 0 0, .slice none 0 0, .slice none 0 0, .slice none 0 0, .slice none 0 0, .slice none 0 0, .slice none 0 0, .slice none 0 0, .slice none 0 0, .slice none 0 0, .slice none 0 0] 51)
      go_upto_region 12 with (fail)
      change Code.wp _ _ _ _ (w2.alloc (.cells #[.int .i64 0, .slice none 0 0, .slice none 0 0, .slice none 0 0, .slice none 0 0, .slice none 0 0, .slice none 0 0, .slice none 0 0, .slice none 0 0, .slice none 0 0, .slice none 0 0, .slice none 0 0, .slice none 0 0, .slice none 0 0, .slice none 0 0, .slice none 0 0, .slice none 0 0] 51))
      generalize w2.alloc (.cells #[.int .i64 0, .slice none 0 0, .slice none 0 0, .slice none 0 0, .slice none 0 0, .slice none 0 0, .slice none 0 0, .slice none 0 0, .slice none 0 0, .slice none 0 0, .slice none 0 0, .slice none 0 0, .slice none 0 0, .slice none 0 0, .slice none 0 0, .slice none 0 0, .slice none 0 0] 51) = W2 at kb x0 ⊢
      obtain ⟨bk, hbk⟩ : ∃ x, x = w2.heap.size := ⟨_, rfl⟩
      rw [← hbk] at x0 ⊢
      have PX0 := Bx.mk (PX9.first (H0.out.below kb) (show BkP W2 bk 0 zeroB from ⟨x0⟩) (by rw [hbk]; exact BS2.out) (fun e => by have := H0.out.lt bk e; omega))
      have LW3 := Bx.mk (LW2.out.trans (kb.mono BS2.out)); have BS3 := Bx.mk (Nat.le_trans BS2.out kb.size)
      clear x0 kb hbk
      go_wp2_with fail
      go_loopw [6] (fun iv wr => ∃ t : Nat, t ≤ n ∧ iv = .int .i64 (t : Int) ∧ PX9 base wr wb bk (4 * t) ∧ Below base w wr ∧ base ≤ wr.heap.size) (fun iv _ => n - (intOf iv).toNat)
      case atStart => exact ⟨0, Nat.zero_le _, rfl, PX0.out, LW3.out, BS3.out⟩
      case round =>
        obtain ⟨t, ht, rfl, hx, hb, hs⟩ := hrel
        have EX := Bx.mk hx; have BT := Bx.mk hb; have ST := Bx.mk hs
        clear hx hb hs
        by_cases hlt : t < n
        · have TL := Bx.mk hlt
          have TE := Bx.mk (show t < us.length by rw [← HN.out]; exact hlt)
          obtain ⟨B, off, rfl, hBl, hr⟩ := (HU.out wr BT.out).at TE.out
          have hal := HA.out _ (List.getElem_mem TE.out)
          obtain ⟨kd, hkd⟩ : ∃ q, q = (us[t]'(TE.out)).kd := ⟨_, rfl⟩
          obtain ⟨wh, hwh⟩ : ∃ q, q = (us[t]'(TE.out)).wh := ⟨_, rfl⟩
          obtain ⟨wi, hwi⟩ : ∃ q, q = (us[t]'(TE.out)).wi := ⟨_, rfl⟩
          obtain ⟨nn, hnn⟩ : ∃ q, q = (us[t]'(TE.out)).nn := ⟨_, rfl⟩
          obtain ⟨sb, hsb⟩ : ∃ q, q = (us[t]'(TE.out)).sb := ⟨_, rfl⟩
          obtain ⟨se, hse⟩ : ∃ q, q = (us[t]'(TE.out)).se := ⟨_, rfl⟩
          obtain ⟨ha, hha⟩ : ∃ q, q = (us[t]'(TE.out)).ha := ⟨_, rfl⟩
          obtain ⟨hl, hhl⟩ : ∃ q, q = (us[t]'(TE.out)).hl := ⟨_, rfl⟩
          obtain ⟨hc, hhc⟩ : ∃ q, q = (us[t]'(TE.out)).hc := ⟨_, rfl⟩
          obtain ⟨hs, hhs⟩ : ∃ q, q = (us[t]'(TE.out)).hs := ⟨_, rfl⟩
          rw [show opcs (us[t]'(TE.out)) = [.int .i64 kd, .int .i64 wh, .int .i64 wi, .int .u64 (nn : Int), .int .u64 (sb : Int), .int .u64 (se : Int), .slice ha hl hc] by rw [hkd, hwh, hwi, hnn, hsb, hse, hha, hhl, hhc]; rfl] at hr
          rw [← hnn, ← hha, ← hhl, ← hhc, ← hhs] at hal
          have HAL := Bx.mk hal
          have RG := Bx.mk hr
          have f1 : (t : Int) < (n : Int) := by omega
          have f2 : ¬ (n : Int) ≤ (t : Int) := by omega
          have HS3 : Bx (∀ u', Below base wr u' → Hss u' (.slice ha hl hc) hs) := ⟨fun u' hu => HAL.out.2.1.below (by rw [← HBS.out]; exact BT.out.trans hu)⟩
          have CD := Bx.mk (doesX9 A base wr wb bk _ EX.out ST.out (fun u hu => HE.out u (BT.out.trans hu)) kd wh wi nn sb se HAL.out.1 ha hl hc hs HS3.out HAL.out.2.2.1 HAL.out.2.2.2)
          clear hal hkd hwh hwi hnn hsb hse hha hhl hhc hhs hlt ht hr hBl
          go_wp2_with (guard_target =~ wpList _ _ _ (⟨some 51, _, _, _, _, _⟩ :: _) _ _; refine wpList_load_mid rfl 57 (.tmp 50) rfl B (off + t * 7) rfl [.int .i64 kd, .int .i64 wh, .int .i64 wi, .int .u64 (nn : Int), .int .u64 (sb : Int), .int .u64 (se : Int), .slice ha hl hc] _ RG.out Tryz.underlying57 rfl (by kernel_rfl) ?_; change wpList _ _ _ _ (Act.put _ _ (.agg #[.int .i64 kd, .int .i64 wh, .int .i64 wi, .int .u64 (nn : Int), .int .u64 (sb : Int), .int .u64 (se : Int), .slice ha hl hc])) _)
          refine CD.out.mono ?_
          rintro e u4 ⟨rfl, hx, hb⟩
          have E4 := Bx.mk hx; have B4 := Bx.mk (BT.out.trans hb); have S4 := Bx.mk (Nat.le_trans ST.out hb.size)
          clear hx hb CD f1 f2
          by_cases h60 : t < 60
          · have f6 : (t : Int) < 60 := by omega
            have CL := Bx.mk (standsX9 base u4 wb bk _ E4.out S4.out (by omega))
            clear h60
            go_wp2_with fail
            refine CL.out.mono ?_
            rintro e u5 ⟨rfl, hx, hb⟩
            have E5 := Bx.mk (hx.mono (show 4 * t + 4 ≤ 4 * (t + 1) by omega)); have B5 := Bx.mk (B4.out.trans hb); have S5 := Bx.mk (Nat.le_trans S4.out hb.size)
            clear hx hb CL f6
            go_wp2_with fail
            go_roundw
            case rel => exact ⟨_, _, _, _, _, _, _, _, _, _, _, _, _, _, _, _, _, _, _, _, _, _, ⟨t + 1, TL.out, (by first | rw [wrap_succB t (by have := TL.out; have := NL.out; omega)] | simp), E5.out, B5.out, S5.out⟩, rfl⟩
            case measure => first | (rw [wrap_succB t (by have := TL.out; have := NL.out; omega)]; have := TL.out; simp [intOf]; omega) | (have := TL.out; simp [intOf]; omega)
          · have f6 : ¬ (t : Int) < 60 := by omega
            have E5 := Bx.mk (E4.out.mono (show 4 * t ≤ 4 * (t + 1) by omega))
            clear h60
            go_wp2_with fail
            go_roundw
            case rel => exact ⟨t + 1, TL.out, (by first | rw [wrap_succB t (by have := TL.out; have := NL.out; omega)] | simp), E5.out, B4.out, S4.out⟩
            case measure => first | (rw [wrap_succB t (by have := TL.out; have := NL.out; omega)]; have := TL.out; simp [intOf]; omega) | (have := TL.out; simp [intOf]; omega)
        · obtain rfl : t = n := by omega
          have f1 : ¬ (t : Int) < (t : Int) := by omega
          clear hlt ht
          have kb := er_al (Below.refl wr.heap.size wr) (.cells #[.int .i64 0, .slice none 0 0, .slice none 0 0, .slice none 0 0, .slice none 0 0, .slice none 0 0, .slice none 0 0, .slice none 0 0, .slice none 0 0, .slice none 0 0, .slice none 0 0, .slice none 0 0, .slice none 0 0, .slice none 0 0, .slice none 0 0, .slice none 0 0, .slice none 0 0] 51)
          have x0 := heap_alloc_new wr (.cells #[.int .i64 0, .slice none 0 0, .slice none 0 0, .slice none 0 0, .slice none 0 0, .slice none 0 0, .slice none 0 0, .slice none 0 0, .slice none 0 0, .slice none 0 0, .slice none 0 0, .slice none 0 0, .slice none 0 0, .slice none 0 0, .slice none 0 0, .slice none 0 0, .slice none 0 0] 51)
          go_upto_region 20 with (fail)
          change Code.wp _ _ _ _ (wr.alloc (.cells #[.int .i64 0, .slice none 0 0, .slice none 0 0, .slice none 0 0, .slice none 0 0, .slice none 0 0, .slice none 0 0, .slice none 0 0, .slice none 0 0, .slice none 0 0, .slice none 0 0, .slice none 0 0, .slice none 0 0, .slice none 0 0, .slice none 0 0, .slice none 0 0, .slice none 0 0] 51))
          generalize wr.alloc (.cells #[.int .i64 0, .slice none 0 0, .slice none 0 0, .slice none 0 0, .slice none 0 0, .slice none 0 0, .slice none 0 0, .slice none 0 0, .slice none 0 0, .slice none 0 0, .slice none 0 0, .slice none 0 0, .slice none 0 0, .slice none 0 0, .slice none 0 0, .slice none 0 0, .slice none 0 0] 51) = W5 at kb x0 ⊢
          obtain ⟨lb, hlb⟩ : ∃ x, x = wr.heap.size := ⟨_, rfl⟩
          rw [← hlb] at x0 ⊢
          have E5 := Bx.mk (PL9.of EX.out kb (show BkP W5 lb 0 zeroB from ⟨x0⟩) (Nat.le_of_eq hlb.symm))
          have LBL := Bx.mk (show base ≤ lb by rw [hlb]; exact ST.out)
          have B5 := Bx.mk (BT.out.trans (kb.mono ST.out)); have S5 := Bx.mk (Nat.le_trans ST.out kb.size)
          have CL := Bx.mk (standsL9 base W5 wb bk lb _ E5.out S5.out (by have := NL.out; omega))
          clear x0 kb hlb f1
          go_wp2_with fail
          refine CL.out.mono ?_
          rintro e u6 ⟨rfl, hx, hb⟩
          have E6 := Bx.mk hx; have B6 := Bx.mk (B5.out.trans hb); have S6 := Bx.mk (Nat.le_trans S5.out hb.size)
          have CA := Bx.mk (apartL9 base u6 wb bk lb _ E6.out S6.out LBL.out (by have := NL.out; omega))
          clear hx hb CL
          go_wp2_with fail
          refine CA.out.mono ?_
          rintro e u7 ⟨rfl, hx, hb⟩
          have E7 := Bx.mk hx; have B7 := Bx.mk (B6.out.trans hb); have S7 := Bx.mk (Nat.le_trans S6.out hb.size)
          have CL := Bx.mk (standsX9 base u7 wb lb _ E7.out S7.out (by omega))
          clear hx hb CA
          go_wp2_with fail
          refine CL.out.mono ?_
          rintro e u8 ⟨rfl, hx, hb⟩
          have B8 := Bx.mk (B7.out.trans hb); have S8 := Bx.mk (Nat.le_trans S7.out hb.size)
          have CV := Bx.mk (alive09_any u8 (HE.out u8 B8.out).ts)
          clear hx hb CL
          go_wp2_with fail
          refine CV.out.mono ?_
          rintro e u9 ⟨rfl, hb⟩
          have FB := Bx.mk (show Below w.heap.size w u9 by rw [← HBS.out]; exact B8.out.trans (hb.mono S8.out))
          clear hb CV
          go_wp2_with fail
          go_ret
          exact ⟨rfl, FB.out⟩
end Go.Proofs.YtgbafjmklefoiaaGreatDoor
end
