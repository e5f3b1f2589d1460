/- cartularylaw10.EmitPlays walked. -/
import Derived.Test.YtbhcaalelfaceaaGreatDoorReG
import Derived.Test.YtbhcaalelfaceaaGreatDoorE4
namespace Go.Proofs.YtbhcaalelfaceaaGreatDoor
set_option maxRecDepth 100000
open Go.RowKit
def EWx (base : Nat) (u : World) (wb q : Nat) : Prop := ∃ D, EW base u wb D ∧ D.bn ≤ q
theorem EWx.below {base : Nat} {u u' : World} {wb q : Nat} (h : EWx base u wb q) (k : Below u.heap.size u u') : EWx base u' wb q := by
  obtain ⟨D, h, hq⟩ := h
  exact ⟨D, h.below k, hq⟩
theorem looksX (A : Nat → Addr) (base : Nat) (u : World) (wb q : Nat) (h : EWx base u wb q) (hb : base ≤ u.heap.size) (hE : ∀ u', Below base u u' → Ec A u') (hq : q ≤ 90000000) (k : Nat) (hk : k < 2) :
    Calls Tryz.prog 8 #[.pointer (some ⟨wb, 0, none⟩), .int .i64 (k : Int)] u fun e w' => e = .returned (.bool true) ∧ EWx base w' wb (q + 2) ∧ Below base u w' := by
  obtain ⟨D, h, hD⟩ := h
  exact (looks10_any A base u wb D h hb hE (by omega) k hk).mono fun e w' ⟨h1, ⟨D', h2, h3⟩, h4⟩ => ⟨h1, ⟨D', h2, by omega⟩, h4⟩
theorem doesX (A : Nat → Addr) (base : Nat) (u : World) (wb q : Nat) (h : EWx base u wb q) (hb : base ≤ u.heap.size) (hE : ∀ u', Below base u u' → Ec A u') (hq : q ≤ 80000000) (kd on : Int) (size : Nat) (hsz : size < 18446744073709551616) (ha : Option Addr) (hl hc : Nat) (hs : List (List UInt8))
    (hH : ∀ u', Below base u u' → Hss u' (.slice ha hl hc) hs) (hnil : ha = none → hc = 0 ∧ hl = 0) (hlm : hl ≤ 1048576) :
    Calls Tryz.prog 7 #[.pointer (some ⟨wb, 0, none⟩), .agg #[.int .i64 kd, .int .i64 on, .int .u64 (size : Int), .slice ha hl hc]] u fun e w' => e = .returned (.bool true) ∧ EWx base w' wb (q + hl) ∧ Below base u w' := by
  obtain ⟨D, h, hD⟩ := h
  exact (does10_any A base u wb D h hb hE (by omega) kd on size hsz ha hl hc hs hH hnil hlm).mono fun e w' ⟨h1, ⟨D', h2, h3⟩, h4⟩ => ⟨h1, ⟨D', h2, by omega⟩, h4⟩
theorem apartX (base : Nat) (u : World) (wb q : Nat) (h : EWx base u wb q) (hb : base ≤ u.heap.size) (hq : q ≤ 90000000) :
    Calls Tryz.prog 9 #[.pointer (some ⟨wb, 4, none⟩)] u fun e w' => e = .returned (.bool true) ∧ EWx base w' wb q ∧ Below base u w' := by
  obtain ⟨D, h, hD⟩ := h
  refine (apartHN_any base u wb D.bn D.l D.m0 D.V0 D.N0 D.X0 D.G0 D.K0 D.m1 D.V1 D.N1 D.X1 D.G1 D.K1 h.bh h.bd h.hz
    (fun i hi k e => ⟨own_apartE (h.bh.li i hi) h.bd.row (by decide) k e, fun j hj => own_apartE (h.bh.li i hi) (h.bd.li j hj) (by decide) k e⟩) (fun k e => own_apartE h.bh.row h.bd.row (by decide) k e)
    (fun i hi k e => ⟨own_apartE (h.bd.li i hi) h.bh.row (by decide) k e, fun j hj => own_apartE (h.bd.li i hi) (h.bh.li j hj) (by decide) k e⟩) (fun k e => own_apartE h.bd.row h.bh.row (by decide) k e)
    hb (by have := h.cm; omega) (fun i hi => by have := h.c0 i hi; omega) (by have := h.cm; omega) (fun i hi => by have := h.c1 i hi; omega)).mono ?_
  rintro e w' ⟨e1, ⟨G0, G1, b0, b1⟩, hk⟩
  have hd : ∀ a, a < 6 → a ≠ 4 → ∀ j, D.U wb a j → ¬ D.B j := fun a ha h4 j hj e => h.dn a 4 ha (by decide) h4 j hj e
  refine ⟨e1, ⟨{ D with X0 := _, G0 := G0, X1 := _, G1 := G1 }, ⟨b0, b1, h.hz, h.ps, h.pr, fun i hi => (h.bu i hi).kept hk (fun j hj => hd i (by omega) (by omega) j ((ED.Us hi j).2 hj)), fun i hi => (h.rb i hi).keptS hk (fun j hj => hd (2 + i) (by omega) (by omega) j ((ED.Ur hi j).2 hj)), h.pc, h.le, h.bw, h.dj, h.cm, h.c0, h.c1⟩, hD⟩, hk.below (B := base) hb (fun j hj => h.ge 4 j hj)⟩
/-- an op that came in -/
structure OpE where
  kd : Int
  on : Int
  size : Nat
  ha : Option Addr
  hl : Nat
  hc : Nat
  hs : List (List UInt8)
def opes (u : OpE) : List Value := [.int .i64 u.kd, .int .i64 u.on, .int .u64 (u.size : Int), .slice u.ha u.hl u.hc]
/-- a slice that reads as ops -/
def OpsE (w : World) (v : Value) (us : List OpE) : Prop :=
  ∃ (a : Option Addr) (cap : Nat), v = .slice a us.length cap ∧ us.length ≤ cap ∧ cap ≤ maxLen ∧ (∀ u ∈ us, u.size < 18446744073709551616 ∧ Hss w (.slice u.ha u.hl u.hc) u.hs ∧ (u.ha = none → u.hc = 0 ∧ u.hl = 0) ∧ u.hl ≤ 140737488351232) ∧
    (us ≠ [] → ∃ B off, a = some ⟨B, off, none⟩ ∧ B < w.heap.size ∧ ∀ i, (h : i < us.length) → w.rangeAt B (off + i * 4) (opes us[i]))
theorem OpsE.below {w w' : World} {v : Value} {us : List OpE} (h : OpsE w v us) (k : Below w.heap.size w w') : OpsE w' v us := by
  obtain ⟨a, cap, h1, h2, h3, h4, h5⟩ := h
  refine ⟨a, cap, h1, h2, h3, fun u hu => ⟨(h4 u hu).1, (h4 u hu).2.1.below k, (h4 u hu).2.2⟩, fun hn => ?_⟩
  obtain ⟨B, off, e, hB, hr⟩ := h5 hn
  exact ⟨B, off, e, Nat.lt_of_lt_of_le hB k.size, fun i hi => rangeB (hr i hi) hB k⟩
theorem OpsE.at {w : World} {a : Option Addr} {n cap : Nat} {us : List OpE} (h : OpsE w (.slice a n cap) us) {t : Nat} (ht : t < us.length) : ∃ B off, a = some ⟨B, off, none⟩ ∧ B < w.heap.size ∧ w.rangeAt B (off + t * 4) (opes us[t]) := by
  obtain ⟨a', cap', e, _, _, _, h5⟩ := h
  injection e with e1 e2 e3
  subst e1
  obtain ⟨B, off, e, hB, hr⟩ := h5 (by intro e; rw [e] at ht; cases ht)
  exact ⟨B, off, e, hB, hr t ht⟩
/-- the size that is reckoned -/
def szE (us : List OpE) (t : Nat) : Nat := ((us.take t).map fun u => 1 + u.hl).sum
theorem szE_succ (us : List OpE) (t : Nat) (ht : t < us.length) : szE us (t + 1) = szE us t + 1 + (us[t]).hl := by
  unfold szE
  rw [List.take_add_one, List.getElem?_eq_getElem ht, List.map_append, List.sum_append]
  simp only [Option.toList, List.map_cons, List.map_nil, List.sum_cons, List.sum_nil]
  omega
def ED0 (s r : Nat → Nat) (l : Nat → Value) : ED := ⟨s, r, fun _ => 0, fun _ => [], fun _ => .slice none 0 0, fun _ => .slice none 0 0, 0, l, 0, fun _ => .nilIface, fun _ => 0, fun _ => [], fun _ => .nilIface, fun _ => 0, 0, fun _ => .nilIface, fun _ => 0, fun _ => [], fun _ => .nilIface, fun _ => 0⟩
theorem ED0_key (s r : Nat → Nat) (l : Nat → Value) (h5 : l 5 = .slice none 0 0) (h8 : l 8 = .slice none 0 0) (wb a k : Nat) (h : (ED0 s r l).U wb a k) : (a = 0 ∧ k = s 0) ∨ (a = 1 ∧ k = s 1) ∨ (a = 2 ∧ k = r 0) ∨ (a = 3 ∧ k = r 1) ∨ (a = 5 ∧ k = wb) := by
  match a, h with
  | 0, h =>
    rcases h with h | h
    · exact .inl ⟨rfl, h⟩
    · cases h
  | 1, h =>
    rcases h with h | h
    · exact .inr (.inl ⟨rfl, h⟩)
    · cases h
  | 2, h =>
    rcases h with h | h
    · exact .inr (.inr (.inl ⟨rfl, h⟩))
    · cases h
  | 3, h =>
    rcases h with h | h
    · exact .inr (.inr (.inr (.inl ⟨rfl, h⟩)))
    · cases h
  | 4, h =>
    rcases h with ⟨i, hi, _⟩ | h | ⟨i, hi, _⟩ | h
    · exact absurd hi (Nat.not_lt_zero _)
    · have h : (l 5).ownBlock = some k := h
      rw [h5] at h; cases h
    · exact absurd hi (Nat.not_lt_zero _)
    · have h : (l 8).ownBlock = some k := h
      rw [h8] at h; cases h
  | 5, h => exact .inr (.inr (.inr (.inr ⟨rfl, h⟩)))
theorem ED0_dj (s0 s1 r0 r1 wb a b k : Nat) (q1 : s0 ≠ r0) (q2 : s0 ≠ r1) (q3 : s1 ≠ r0) (q4 : s1 ≠ r1) (q5 : s0 ≠ wb) (q6 : s1 ≠ wb) (q7 : r0 ≠ wb) (q8 : r1 ≠ wb) (q9 : s0 ≠ s1) (q10 : r0 ≠ r1) (hab : a < b)
    (h1 : (a = 0 ∧ k = s0) ∨ (a = 1 ∧ k = s1) ∨ (a = 2 ∧ k = r0) ∨ (a = 3 ∧ k = r1) ∨ (a = 5 ∧ k = wb)) (h2 : (b = 0 ∧ k = s0) ∨ (b = 1 ∧ k = s1) ∨ (b = 2 ∧ k = r0) ∨ (b = 3 ∧ k = r1) ∨ (b = 5 ∧ k = wb)) : False := by
  rcases h1 with ⟨e1, e2⟩ | ⟨e1, e2⟩ | ⟨e1, e2⟩ | ⟨e1, e2⟩ | ⟨e1, e2⟩ <;> rcases h2 with ⟨e3, e4⟩ | ⟨e3, e4⟩ | ⟨e3, e4⟩ | ⟨e3, e4⟩ | ⟨e3, e4⟩ <;> omega
theorem ew_first {base : Nat} {u : World} {wb : Nat} {l : Nat → Value} {s r : Nat → Nat} (hb : BkP u wb (0 : Int) l) (hz : ∀ i, i ≤ 16 → l i = .slice none 0 0) (hp : ∀ i, i < 2 → l (17 + i) = .pointer (some ⟨s i, 0, none⟩) ∧ l (19 + i) = .pointer (some ⟨r i, 0, none⟩))
    (hB : ∀ i, i < 2 → BuP base u (s i) 0 [] (.slice none 0 0) ∧ RbM base u (r i) 0 [] (.slice none 0 0)) (hd : s 0 ≠ s 1 ∧ r 0 ≠ r 1) (hw : base ≤ wb) : EWx base u wb 0 := by
  have apart : ∀ (x y : Nat) (c c' : Array Value) (T T' : TypeId), u.heap[x]? = some (.cells c T (0, 0)) → u.heap[y]? = some (.cells c' T' (0, 0)) → T ≠ T' → x ≠ y := fun x y c c' T T' h1 h2 hT e => by
    rw [e, h2] at h1
    injection h1 with h1
    injection h1 with _ h1 _
    exact hT h1.symm
  have sr : ∀ i j, i < 2 → j < 2 → s i ≠ r j := fun i j hi hj => apart _ _ _ _ _ _ (hB i hi).1.hb (hB j hj).2.hb (by decide)
  have sw : ∀ i, i < 2 → s i ≠ wb := fun i hi => apart _ _ _ _ _ _ (hB i hi).1.hb hb.hb (by decide)
  have rw' : ∀ i, i < 2 → r i ≠ wb := fun i hi => apart _ _ _ _ _ _ (hB i hi).2.hb hb.hb (by decide)
  have nz : ∀ (P : Nat → Prop) (i : Nat), i < 0 → P i := fun P i hi => absurd hi (Nat.not_lt_zero _)
  have b5 : BkL 5 114 66 32 base u wb 0 l 0 (fun _ => .nilIface) (fun _ => 0) (fun _ => []) (fun _ => .nilIface) (fun _ => 0) :=
    ⟨hb, by rw [hz 5 (by decide)]; exact World.ownsRow_nil _ _ _ _, nz _, nz _, nz _, nz _, by decide⟩
  have b8 : BkL 8 128 130 34 base u wb 0 l 0 (fun _ => .nilIface) (fun _ => 0) (fun _ => []) (fun _ => .nilIface) (fun _ => 0) :=
    ⟨hb, by rw [hz 8 (by decide)]; exact World.ownsRow_nil _ _ _ _, nz _, nz _, nz _, nz _, by decide⟩
  have pc0 : ([] : List (List UInt8)).length = pcnt 0 := rfl
  suffices dj0 : ∀ a b, a < b → b < 6 → ∀ k, (ED0 s r l).U wb a k → ¬ (ED0 s r l).U wb b k by
    exact ⟨ED0 s r l, ⟨b5, b8, fun i hi _ _ => hz i hi, fun i hi => (hp i hi).1, fun i hi => (hp i hi).2, fun i hi => (hB i hi).1, fun i hi => (hB i hi).2, fun _ _ => pc0, fun _ _ => Nat.zero_le _, hw, dj0, Nat.le_refl _, nz _, nz _⟩, Nat.le_refl _⟩
  exact fun a b hab _ k h1 h2 => ED0_dj (s 0) (s 1) (r 0) (r 1) wb a b k (sr 0 0 (by decide) (by decide)) (sr 0 1 (by decide) (by decide)) (sr 1 0 (by decide) (by decide)) (sr 1 1 (by decide) (by decide)) (sw 0 (by decide)) (sw 1 (by decide)) (rw' 0 (by decide)) (rw' 1 (by decide)) hd.1 hd.2 hab (ED0_key s r l (hz 5 (by decide)) (hz 8 (by decide)) wb a k h1) (ED0_key s r l (hz 5 (by decide)) (hz 8 (by decide)) wb b k h2)
def Ne0 (own : Nat → Option Nat) (w : World) (base B b : Nat) : Prop := BuP base w b 0 [] (.slice none 0 0) ∧ ∀ j, BuS b (.slice none 0 0) j → own j = none ∧ B ≤ j
theorem Ne0.stable {mk own own' : Nat → Option Nat} {w w' : World} {i base B b : Nat} (h : Ne0 own w base B b) (r : Rel mk i own w own' w') : Ne0 own' w' base B b := by
  obtain ⟨h1, h2⟩ := h
  exact ⟨h1.kept r.kpE (fun j hj e => by rw [(h2 j hj).1] at e; cases e), fun j hj => ⟨(r.owns j (h1.lt j hj)).trans (h2 j hj).1, (h2 j hj).2⟩⟩
def Rn0 (own : Nat → Option Nat) (w : World) (base B b : Nat) : Prop := RbM base w b 0 [] (.slice none 0 0) ∧ ∀ j, RbS b (.slice none 0 0) j → own j = none ∧ B ≤ j
theorem Rn0.stable {mk own own' : Nat → Option Nat} {w w' : World} {i base B b : Nat} (h : Rn0 own w base B b) (r : Rel mk i own w own' w') : Rn0 own' w' base B b := by
  obtain ⟨h1, h2⟩ := h
  exact ⟨h1.keptS r.kpE (fun j hj e => by rw [(h2 j hj).1] at e; cases e), fun j hj => ⟨(r.owns j (h1.ltS j hj)).trans (h2 j hj).1, (h2 j hj).2⟩⟩
def VP6 (wb k base B : Nat) (cs : Array Value) (oi : Nat) (v : Value) (own : Nat → Option Nat) (w : World) : Prop :=
  match oi with
  | 0 => v = .pointer (some ⟨wb, 0, none⟩)
  | 1 => v = .int .i64 (k : Int)
  | 2 => PtV (fun b => Ne0 own w base B b) v
  | 3 => v = .pointer (some ⟨wb, 0, none⟩)
  | 4 => v = .pointer (some ⟨wb, 0, none⟩)
  | 5 => v = .pointer (some ⟨wb, k, none⟩)
  | 6 => StW own w wb (k) cs (fun b => Ne0 own w base B b)
  | _ => True
def VP6mk : Nat → Option Nat := fun _ => none
theorem VP6_mono (wb k base B : Nat) (cs : Array Value) (oi oj : Nat) (v : Value) (own : Nat → Option Nat) (w : World) (own' : Nat → Option Nat) (w' : World) (hij : oi ≠ oj)   (h : VP6 wb k base B cs oj v own w) (r1 : Rel VP6mk oi own w own' w') : VP6 wb k base B cs oj v own' w' := by
  unfold VP6 at h ⊢
  split at h
  · exact h
  · exact h
  · obtain ⟨b, e, h⟩ := h; exact ⟨b, e, h.stable r1⟩
  · exact h
  · exact h
  · exact h
  · obtain ⟨b, h1, h2⟩ := h; exact ⟨b, h1.stable r1 hij, h2.stable r1⟩
  · trivial

def VP7 (wb k base B : Nat) (cs : Array Value) (oi : Nat) (v : Value) (own : Nat → Option Nat) (w : World) : Prop :=
  match oi with
  | 0 => v = .pointer (some ⟨wb, 0, none⟩)
  | 1 => v = .int .i64 (k : Int)
  | 2 => PtV (fun b => Rn0 own w base B b) v
  | 3 => v = .pointer (some ⟨wb, 0, none⟩)
  | 4 => v = .pointer (some ⟨wb, 2, none⟩)
  | 5 => v = .pointer (some ⟨wb, 2 + k, none⟩)
  | 6 => StW own w wb (2 + k) cs (fun b => Rn0 own w base B b)
  | _ => True
def VP7mk : Nat → Option Nat := fun _ => none
theorem VP7_mono (wb k base B : Nat) (cs : Array Value) (oi oj : Nat) (v : Value) (own : Nat → Option Nat) (w : World) (own' : Nat → Option Nat) (w' : World) (hij : oi ≠ oj)   (h : VP7 wb k base B cs oj v own w) (r1 : Rel VP7mk oi own w own' w') : VP7 wb k base B cs oj v own' w' := by
  unfold VP7 at h ⊢
  split at h
  · exact h
  · exact h
  · obtain ⟨b, e, h⟩ := h; exact ⟨b, e, h.stable r1⟩
  · exact h
  · exact h
  · exact h
  · obtain ⟨b, h1, h2⟩ := h; exact ⟨b, h1.stable r1 hij, h2.stable r1⟩
  · trivial

set_option maxHeartbeats 6400000 in
theorem eplays_any (A : Nat → Addr) (w : World) (v : Value) (us : List OpE) (hU : OpsE w v us) (hE : Ec A w) :
    Calls Tryz.prog 3 #[v] w fun e w' => e = .returned (.bool true) ∧ Below w.heap.size w w' := by
  obtain ⟨a, cap, rfl, hcap, hcm, hall, hmem⟩ := id hU
  obtain ⟨n, hn⟩ : ∃ n, n = us.length := ⟨_, rfl⟩
  have HN := Bx.mk hn
  have kb := er_al (Below.refl w.heap.size w) (.cells #[.pointer none, .pointer none, .pointer none, .pointer none, .int .i64 0, .slice none 0 0, .slice none 0 0, .slice none 0 0, .slice none 0 0, .slice none 0 0, .slice none 0 0, .slice none 0 0, .slice none 0 0, .slice none 0 0, .slice none 0 0, .slice none 0 0, .slice none 0 0, .slice none 0 0, .slice none 0 0, .slice none 0 0, .slice none 0 0] 47)
  have x0 := heap_alloc_new w (.cells #[.pointer none, .pointer none, .pointer none, .pointer none, .int .i64 0, .slice none 0 0, .slice none 0 0, .slice none 0 0, .slice none 0 0, .slice none 0 0, .slice none 0 0, .slice none 0 0, .slice none 0 0, .slice none 0 0, .slice none 0 0, .slice none 0 0, .slice none 0 0, .slice none 0 0, .slice none 0 0, .slice none 0 0, .slice none 0 0] 47)
  have HU := Bx.mk (fun u (hu : Below w.heap.size w u) => hU.below hu)
  have HE := Bx.mk (fun u (hu : Below w.heap.size w u) => hE.below hu)
  have HA := Bx.mk hall
  have NM := Bx.mk (show us.length ≤ maxLen from Nat.le_trans hcap hcm)
  rw [← hn]
  clear hU hE hall hmem hcap hcm hn
  go_enter Tryz.func3, Tryz.ntmps3
  go_upto_region 2 with (fail)
  change Code.wp _ _ _ _ (w.alloc (.cells #[.pointer none, .pointer none, .pointer none, .pointer none, .int .i64 0, .slice none 0 0, .slice none 0 0, .slice none 0 0, .slice none 0 0, .slice none 0 0, .slice none 0 0, .slice none 0 0, .slice none 0 0, .slice none 0 0, .slice none 0 0, .slice none 0 0, .slice none 0 0, .slice none 0 0, .slice none 0 0, .slice none 0 0, .slice none 0 0] 47))
  generalize w.alloc (.cells #[.pointer none, .pointer none, .pointer none, .pointer none, .int .i64 0, .slice none 0 0, .slice none 0 0, .slice none 0 0, .slice none 0 0, .slice none 0 0, .slice none 0 0, .slice none 0 0, .slice none 0 0, .slice none 0 0, .slice none 0 0, .slice none 0 0, .slice none 0 0, .slice none 0 0, .slice none 0 0, .slice none 0 0, .slice none 0 0] 47) = W at kb x0 ⊢
  obtain ⟨base, hbs⟩ : ∃ b, b = w.heap.size := ⟨_, rfl⟩
  rw [← hbs] at x0 kb HU HE ⊢
  obtain ⟨wb, hwb⟩ : ∃ x, x = base := ⟨_, rfl⟩
  rw [← hwb] at x0
  have X0 := Bx.mk x0; have KB := Bx.mk kb; have BW := Bx.mk (Nat.le_of_eq hwb.symm); have S0 := Bx.mk (show base ≤ W.heap.size from by have := (Array.getElem?_eq_some_iff.1 x0).1; omega)
  have BP0 : Bx (BkP W wb (0 : Int) (fun i => if 17 ≤ i then .pointer none else .slice none 0 0)) := ⟨⟨x0⟩⟩
  have HBS := Bx.mk hbs
  rw [← hwb]
  clear x0 kb hbs hwb
  go_wp2_with fail
  go_loopw [5] (fun iv wr => ∃ (k : Nat) (l : Nat → Value) (s r : Nat → Nat), k ≤ 2 ∧ iv = .int .i64 (k : Int) ∧ BkP wr wb (0 : Int) l ∧ (∀ i, i ≤ 16 → l i = .slice none 0 0) ∧ (∀ i, i < k → l (17 + i) = .pointer (some ⟨s i, 0, none⟩) ∧ l (19 + i) = .pointer (some ⟨r i, 0, none⟩)) ∧
    (∀ i, i < k → BuP base wr (s i) 0 [] (.slice none 0 0) ∧ RbM base wr (r i) 0 [] (.slice none 0 0)) ∧ (∀ i j, i < j → j < k → s i ≠ s j ∧ r i ≠ r j) ∧ Below base w wr ∧ base ≤ wr.heap.size) (fun iv _ => 2 - (intOf iv).toNat)
  case atStart => exact ⟨0, _, fun _ => 0, fun _ => 0, Nat.zero_le _, rfl, BP0.out, fun i hi => if_neg (by omega), fun i hi => absurd hi (Nat.not_lt_zero _), fun i hi => absurd hi (Nat.not_lt_zero _), fun i j _ hj => absurd hj (Nat.not_lt_zero _), KB.out, S0.out⟩
  case round =>
    obtain ⟨k, l, s, r, hk, rfl, hbp, hz, hp, hB, hd, hb, hs⟩ := hrel
    have LBP := Bx.mk hbp; have LZ := Bx.mk hz; have LP := Bx.mk hp; have LB := Bx.mk hB; have LD := Bx.mk hd; have LW := Bx.mk hb; have BS := Bx.mk hs
    clear hbp hz hp hB hd hb hs
    by_cases hlt : k < 2
    · have k1 : (k : Int) < 2 := by omega
      have k2 : ¬ (2 : Int) ≤ (k : Int) := by omega
      have k3 : (0 : Int) ≤ (k : Int) := by omega
      have K1 := Bx.mk k1; have K2 := Bx.mk k2; have HK := Bx.mk hlt
      obtain ⟨B, hBB⟩ : ∃ B, B = wr.heap.size := ⟨_, rfl⟩
      have BB := Bx.mk (Nat.le_of_eq hBB); have HB := Bx.mk hBB
      obtain ⟨cs, hcs⟩ : ∃ cs, wr.heap[wb]? = some (.cells cs 47 (0, 0)) := ⟨_, LBP.out.hb⟩
      have XB := Bx.mk hcs; have WBL := Bx.mk (Array.getElem?_eq_some_iff.1 hcs).1
      have CX : Bx (∀ u : World, u.heap[wb]? = wr.heap[wb]? → u.cell? ⟨wb, k, none⟩ = some (l (17 + k))) := ⟨fun u e => BkP.cS (bn := 0) (l := l) ⟨e.trans LBP.out.hb⟩ HK.out rfl⟩
      have WNE := Bx.mk (show ∀ i, i < k → s i ≠ wb ∧ r i ≠ wb from fun i hi => by
        have h1 := (LB.out i hi).1.hb; have h2 := (LB.out i hi).2.hb; have h3 := LBP.out.hb
        refine ⟨fun e => ?_, fun e => ?_⟩
        · rw [e, h3] at h1; injection h1 with h1; injection h1 with _ h1 _; revert h1; decide
        · rw [e, h3] at h2; injection h2 with h1; injection h1 with _ h1 _; revert h1; decide)
      clear hBB hcs hlt hk
      go_upto_region 6 with (fail)
      refine wp_region_own8 (n := 87) VP6mk (fun j => if j = wb then some 6 else none) (VP6 wb k base B cs) (by kernel_rfl) (by kernel_rfl) rfl (fun j hj => if_neg (by have := WBL.out; omega)) (fun j i hj _ => by cases hj) ?_ ?_ ?_
      · exact fun oi oj v own w own' w' hij _ h r1 => VP6_mono wb k base B cs oi oj v own w own' w' hij h r1
      · intro oi o hi f u own hsame hsn hfr hlate hkeep8 hdep
        have hkeep := hkeep8 _ (.inl rfl)
        match oi, hi with
        | 0, hi =>
          cases (show some _ = some o from hi)
          have e3 : f.tmps.getD 3 undef = .pointer (some ⟨wb, 0, none⟩) := hsame.slot 3 (fun i o h => invB2_not 3 (by kernel_rfl) h)
          clear hdep hsame hi hlate hfr hkeep
          exact .inl ⟨wanted_none rfl, showsO_move hsn rfl _ rfl e3⟩
        | 1, hi =>
          cases (show some _ = some o from hi)
          have e5 : f.tmps.getD 5 undef = .int .i64 (k : Int) := hsame.slot 5 (fun i o h => invB2_not 5 (by kernel_rfl) h)
          clear hdep hsame hi hlate hfr hkeep
          exact .inl ⟨wanted_none rfl, showsO_move hsn rfl _ rfl e5⟩
        | 2, hi =>
          cases (show some _ = some o from hi)
          clear hdep hsame hi hlate hfr hkeep
          have c := bnew_any u
          exact .inl ⟨wanted_none rfl, showsO_call (R := fun v w' => ∃ b, v = .pointer (some ⟨b, 0, none⟩) ∧ BuP u.heap.size w' b 0 [] (.slice none 0 0)) hsn rfl 4 #[] (by simp only [execOp, Act.eval]; go_simp) (c.mono fun e w' ⟨b, h1, h2, h3⟩ => ⟨_, h1, ⟨b, rfl, h2⟩, h3⟩) (fun v w' ⟨b, e, h⟩ _ => ⟨b, e, h.mono (Nat.le_trans BS.out hsn.size), fun j hj => ⟨hsn.top j (h.ge j hj), Nat.le_trans (Nat.le_trans BB.out hsn.size) (h.ge j hj)⟩⟩)⟩
        | 3, hi =>
          cases (show some _ = some o from hi)
          have e13 : (f.tmps.getD 13 undef) = .pointer (some ⟨wb, 0, none⟩) := depO (V := (VP6 wb k base B cs)) hdep 0 13 (by kernel_rfl) (by kernel_rfl)
          clear hdep hsame hi hlate hfr hkeep
          exact .inl ⟨wanted_none rfl, showsO_pure hsn rfl (.pointer (some ⟨wb, 0, none⟩)) (by simp only [execOp, Act.eval]; go_simp) rfl⟩
        | 4, hi =>
          cases (show some _ = some o from hi)
          have e16 : (f.tmps.getD 16 undef) = .pointer (some ⟨wb, 0, none⟩) := depO (V := (VP6 wb k base B cs)) hdep 3 16 (by kernel_rfl) (by kernel_rfl)
          clear hdep hsame hi hlate hfr hkeep
          exact .inl ⟨wanted_none rfl, showsO_pure hsn rfl (.pointer (some ⟨wb, 0, none⟩)) (by simp only [execOp, Act.eval]; go_simp) rfl⟩
        | 5, hi =>
          cases (show some _ = some o from hi)
          have e14 : (f.tmps.getD 14 undef) = .int .i64 (k : Int) := depO (V := (VP6 wb k base B cs)) hdep 1 14 (by kernel_rfl) (by kernel_rfl)
          have e17 : (f.tmps.getD 17 undef) = .pointer (some ⟨wb, 0, none⟩) := depO (V := (VP6 wb k base B cs)) hdep 4 17 (by kernel_rfl) (by kernel_rfl)
          clear hdep hsame hi hlate hfr hkeep
          have k1 := K1.out
          have k2 := K2.out
          exact .inl ⟨wanted_none rfl, showsO_pure hsn rfl (.pointer (some ⟨wb, k, none⟩)) (by simp only [execOp, Act.eval]; go_simp) rfl⟩
        | 6, hi =>
          cases (show some _ = some o from hi)
          have e15 : PtV (fun b => Ne0 own u base B b) (f.tmps.getD 15 undef) := depO (V := (VP6 wb k base B cs)) hdep 2 15 (by kernel_rfl) (by kernel_rfl)
          have e18 : (f.tmps.getD 18 undef) = .pointer (some ⟨wb, k, none⟩) := depO (V := (VP6 wb k base B cs)) hdep 5 18 (by kernel_rfl) (by kernel_rfl)
          clear hdep hsame hi hlate hfr hkeep
          obtain ⟨b, e15, N15⟩ := e15
          have hbU := (hkeep8 6 (.inl rfl) wb WBL.out (if_pos rfl)).trans XB.out
          have hst := CX.out u (hkeep8 6 (.inl rfl) wb WBL.out (if_pos rfl))
          have hfr2 := frozenC hbU (k)
          exact .inl ⟨wanted_none rfl, showsO_store_cell hsn hkeep8 rfl wb (k) cs 47 XB.out (if_pos rfl) (.pointer (some ⟨b, 0, none⟩)) (by simp only [execOp, Act.eval]; go_simp) (fun h => ⟨b, h, by obtain ⟨h1, h2⟩ := N15; exact ⟨h1.kept (Keep.setCell u ⟨wb, k, none⟩ _) (fun j hj e => by have e : j = wb := e; have h3 := (h2 j hj).1; rw [e, hsn.owns wb WBL.out, if_pos rfl] at h3; cases h3), h2⟩⟩)⟩
        | n + 7, hi => exact absurd hi (by simp)
      · intro f u1 own hsame hsn hall
        have q13 : f.tmps.getD 13 undef = .pointer (some ⟨wb, 0, none⟩) := finO (V := (VP6 wb k base B cs)) hall 0 13 rfl
        have q14 : f.tmps.getD 14 undef = .int .i64 (k : Int) := finO (V := (VP6 wb k base B cs)) hall 1 14 rfl
        obtain ⟨b15, q15, N15⟩ := finO (V := (VP6 wb k base B cs)) hall 2 15 rfl
        have q16 : f.tmps.getD 16 undef = .pointer (some ⟨wb, 0, none⟩) := finO (V := (VP6 wb k base B cs)) hall 3 16 rfl
        have q17 : f.tmps.getD 17 undef = .pointer (some ⟨wb, 0, none⟩) := finO (V := (VP6 wb k base B cs)) hall 4 17 rfl
        have q18 : f.tmps.getD 18 undef = .pointer (some ⟨wb, k, none⟩) := finO (V := (VP6 wb k base B cs)) hall 5 18 rfl
        obtain ⟨bz, ⟨oz, mz⟩, NZ⟩ := finN (V := (VP6 wb k base B cs)) hall 6 rfl
        obtain rfl := frame_eq hsame [(13, .pointer (some ⟨wb, 0, none⟩)), (14, .int .i64 (k : Int)), (15, (.pointer (some ⟨b15, 0, none⟩))), (16, .pointer (some ⟨wb, 0, none⟩)), (17, .pointer (some ⟨wb, 0, none⟩)), (18, .pointer (some ⟨wb, k, none⟩))] (by kernel_rfl) ⟨q13, q14, q15, q16, q17, q18, trivial⟩
        clear hall hsame q13 q14 q15 q16 q17 q18
        simp only [List.foldl, List.setIfInBounds_toArray, List.set_cons_succ, List.set_cons_zero]
        have kp1 : Keep (fun j => j = wb) wr u1 := ⟨hsn.os, hsn.tape, hsn.output, hsn.size, fun j hj hn => hsn.keep j hj (if_neg hn)⟩
        have bp1 := LBP.out.set XB.out (k := k) (by have := HK.out; omega) mz
        obtain ⟨hBu, hnb⟩ := NZ
        obtain ⟨b1, hb1⟩ : ∃ b1, b1 = bz := ⟨_, rfl⟩
        rw [← hb1] at hBu hnb bp1
        have KP1 := Bx.mk kp1; have BP1 := Bx.mk bp1; have BU1 := Bx.mk hBu; have NB1 := Bx.mk (hnb b1 (.inl rfl)).2
        have XBr := Bx.mk mz; have WBLr := Bx.mk (Array.getElem?_eq_some_iff.1 mz).1
        have BSr := Bx.mk (Nat.le_trans BS.out kp1.size)
        obtain ⟨Br, hBr⟩ : ∃ Br, Br = u1.heap.size := ⟨_, rfl⟩
        have BBr := Bx.mk (Nat.le_of_eq hBr); have HBr := Bx.mk hBr
        have CXr : Bx (∀ u : World, u.heap[wb]? = u1.heap[wb]? → u.cell? ⟨wb, 2 + k, none⟩ = some (updK l (17 + k) (.pointer (some ⟨b1, 0, none⟩)) (19 + k))) := ⟨fun u e => BkP.cR (bn := 0) (l := updK l (17 + k) (.pointer (some ⟨b1, 0, none⟩))) ⟨e.trans BP1.out.hb⟩ HK.out rfl⟩
        obtain ⟨csr, hcsr⟩ : ∃ c : Array Value, c = cs.setIfInBounds k (.pointer (some ⟨bz, 0, none⟩)) := ⟨_, rfl⟩
        rw [← hcsr] at XBr
        clear kp1 bp1 hBu hnb mz oz hBr hsn CX hcsr hb1
        go_upto_region 7 with (fail)
        refine wp_region_own8 (n := 87) VP7mk (fun j => if j = wb then some 6 else none) (VP7 wb k base Br csr) (by kernel_rfl) (by kernel_rfl) rfl (fun j hj => if_neg (by have := WBLr.out; omega)) (fun j i hj _ => by cases hj) ?_ ?_ ?_
        · exact fun oi oj v own w own' w' hij _ h r1 => VP7_mono wb k base Br csr oi oj v own w own' w' hij h r1
        · intro oi o hi f u own hsame hsn hfr hlate hkeep8 hdep
          have hkeep := hkeep8 _ (.inl rfl)
          match oi, hi with
          | 0, hi =>
            cases (show some _ = some o from hi)
            have e3 : f.tmps.getD 3 undef = .pointer (some ⟨wb, 0, none⟩) := hsame.slot 3 (fun i o h => invB2_not 3 (by kernel_rfl) h)
            clear hdep hsame hi hlate hfr hkeep
            exact .inl ⟨wanted_none rfl, showsO_move hsn rfl _ rfl e3⟩
          | 1, hi =>
            cases (show some _ = some o from hi)
            have e5 : f.tmps.getD 5 undef = .int .i64 (k : Int) := hsame.slot 5 (fun i o h => invB2_not 5 (by kernel_rfl) h)
            clear hdep hsame hi hlate hfr hkeep
            exact .inl ⟨wanted_none rfl, showsO_move hsn rfl _ rfl e5⟩
          | 2, hi =>
            cases (show some _ = some o from hi)
            clear hdep hsame hi hlate hfr hkeep
            have c := rnew10_any u
            exact .inl ⟨wanted_none rfl, showsO_call (R := fun v w' => ∃ b, v = .pointer (some ⟨b, 0, none⟩) ∧ RbM u.heap.size w' b 0 [] (.slice none 0 0)) hsn rfl 5 #[] (by simp only [execOp, Act.eval]; go_simp) (c.mono fun e w' ⟨b, h1, h2, h3⟩ => ⟨_, h1, ⟨b, rfl, h2⟩, h3⟩) (fun v w' ⟨b, e, h⟩ _ => ⟨b, e, h.mono (Nat.le_trans BSr.out hsn.size), fun j hj => ⟨hsn.top j (h.geS j hj), Nat.le_trans (Nat.le_trans BBr.out hsn.size) (h.geS j hj)⟩⟩)⟩
          | 3, hi =>
            cases (show some _ = some o from hi)
            have e19 : (f.tmps.getD 19 undef) = .pointer (some ⟨wb, 0, none⟩) := depO (V := (VP7 wb k base Br csr)) hdep 0 19 (by kernel_rfl) (by kernel_rfl)
            clear hdep hsame hi hlate hfr hkeep
            exact .inl ⟨wanted_none rfl, showsO_pure hsn rfl (.pointer (some ⟨wb, 0, none⟩)) (by simp only [execOp, Act.eval]; go_simp) rfl⟩
          | 4, hi =>
            cases (show some _ = some o from hi)
            have e22 : (f.tmps.getD 22 undef) = .pointer (some ⟨wb, 0, none⟩) := depO (V := (VP7 wb k base Br csr)) hdep 3 22 (by kernel_rfl) (by kernel_rfl)
            clear hdep hsame hi hlate hfr hkeep
            exact .inl ⟨wanted_none rfl, showsO_pure hsn rfl (.pointer (some ⟨wb, 2, none⟩)) (by simp only [execOp, Act.eval]; go_simp) rfl⟩
          | 5, hi =>
            cases (show some _ = some o from hi)
            have e20 : (f.tmps.getD 20 undef) = .int .i64 (k : Int) := depO (V := (VP7 wb k base Br csr)) hdep 1 20 (by kernel_rfl) (by kernel_rfl)
            have e23 : (f.tmps.getD 23 undef) = .pointer (some ⟨wb, 2, none⟩) := depO (V := (VP7 wb k base Br csr)) hdep 4 23 (by kernel_rfl) (by kernel_rfl)
            clear hdep hsame hi hlate hfr hkeep
            have k1 := K1.out
            have k2 := K2.out
            exact .inl ⟨wanted_none rfl, showsO_pure hsn rfl (.pointer (some ⟨wb, 2 + k, none⟩)) (by simp only [execOp, Act.eval]; go_simp) rfl⟩
          | 6, hi =>
            cases (show some _ = some o from hi)
            have e21 : PtV (fun b => Rn0 own u base Br b) (f.tmps.getD 21 undef) := depO (V := (VP7 wb k base Br csr)) hdep 2 21 (by kernel_rfl) (by kernel_rfl)
            have e24 : (f.tmps.getD 24 undef) = .pointer (some ⟨wb, 2 + k, none⟩) := depO (V := (VP7 wb k base Br csr)) hdep 5 24 (by kernel_rfl) (by kernel_rfl)
            clear hdep hsame hi hlate hfr hkeep
            obtain ⟨b, e21, N21⟩ := e21
            have hbU := (hkeep8 6 (.inl rfl) wb WBLr.out (if_pos rfl)).trans XBr.out
            have hst := CXr.out u (hkeep8 6 (.inl rfl) wb WBLr.out (if_pos rfl))
            have hfr2 := frozenC hbU (2 + k)
            exact .inl ⟨wanted_none rfl, showsO_store_cell hsn hkeep8 rfl wb (2 + k) csr 47 XBr.out (if_pos rfl) (.pointer (some ⟨b, 0, none⟩)) (by simp only [execOp, Act.eval]; go_simp) (fun h => ⟨b, h, by obtain ⟨h1, h2⟩ := N21; exact ⟨h1.keptS (Keep.setCell u ⟨wb, 2 + k, none⟩ _) (fun j hj e => by have e : j = wb := e; have h3 := (h2 j hj).1; rw [e, hsn.owns wb WBLr.out, if_pos rfl] at h3; cases h3), h2⟩⟩)⟩
          | n + 7, hi => exact absurd hi (by simp)
        · intro f u2 own hsame hsn hall
          have q19 : f.tmps.getD 19 undef = .pointer (some ⟨wb, 0, none⟩) := finO (V := (VP7 wb k base Br csr)) hall 0 19 rfl
          have q20 : f.tmps.getD 20 undef = .int .i64 (k : Int) := finO (V := (VP7 wb k base Br csr)) hall 1 20 rfl
          obtain ⟨b21, q21, N21⟩ := finO (V := (VP7 wb k base Br csr)) hall 2 21 rfl
          have q22 : f.tmps.getD 22 undef = .pointer (some ⟨wb, 0, none⟩) := finO (V := (VP7 wb k base Br csr)) hall 3 22 rfl
          have q23 : f.tmps.getD 23 undef = .pointer (some ⟨wb, 2, none⟩) := finO (V := (VP7 wb k base Br csr)) hall 4 23 rfl
          have q24 : f.tmps.getD 24 undef = .pointer (some ⟨wb, 2 + k, none⟩) := finO (V := (VP7 wb k base Br csr)) hall 5 24 rfl
          obtain ⟨bz, ⟨oz, mz⟩, NZ⟩ := finN (V := (VP7 wb k base Br csr)) hall 6 rfl
          obtain rfl := frame_eq hsame [(19, .pointer (some ⟨wb, 0, none⟩)), (20, .int .i64 (k : Int)), (21, (.pointer (some ⟨b21, 0, none⟩))), (22, .pointer (some ⟨wb, 0, none⟩)), (23, .pointer (some ⟨wb, 2, none⟩)), (24, .pointer (some ⟨wb, 2 + k, none⟩))] (by kernel_rfl) ⟨q19, q20, q21, q22, q23, q24, trivial⟩
          clear hall hsame q19 q20 q21 q22 q23 q24
          simp only [List.foldl, List.setIfInBounds_toArray, List.set_cons_succ, List.set_cons_zero]
          have kp2 : Keep (fun j => j = wb) u1 u2 := ⟨hsn.os, hsn.tape, hsn.output, hsn.size, fun j hj hn => hsn.keep j hj (if_neg hn)⟩
          have bp2 := BP1.out.set XBr.out (k := 2 + k) (by have := HK.out; omega) mz
          obtain ⟨hRb, hnr⟩ := NZ
          have wlt : wb < B := by have h1 := WBL.out; have h2 := HB.out; omega
          have kk := KP1.out.trans kp2 (fun _ _ h => h)
          obtain ⟨r1, hr1⟩ : ∃ r1, r1 = bz := ⟨_, rfl⟩
          rw [← hr1] at hRb hnr bp2
          have NXT : Bx (∃ (l : Nat → Value) (s r : Nat → Nat), BkP u2 wb (0 : Int) l ∧ (∀ i, i ≤ 16 → l i = .slice none 0 0) ∧ (∀ i, i < k + 1 → l (17 + i) = .pointer (some ⟨s i, 0, none⟩) ∧ l (19 + i) = .pointer (some ⟨r i, 0, none⟩)) ∧
              (∀ i, i < k + 1 → BuP base u2 (s i) 0 [] (.slice none 0 0) ∧ RbM base u2 (r i) 0 [] (.slice none 0 0)) ∧ (∀ i j, i < j → j < k + 1 → s i ≠ s j ∧ r i ≠ r j) ∧ Below base w u2 ∧ base ≤ u2.heap.size) := by
            have oldS : ∀ i, i < k → s i < B ∧ r i < B := fun i hi => ⟨HB.out ▸ (LB.out i hi).1.lt _ (.inl rfl), HB.out ▸ (LB.out i hi).2.ltS _ (.inl rfl)⟩
            have hk2 := HK.out
            have nr1 := (hnr r1 (.inl rfl)).2
            have szz : B ≤ Br := by rw [HB.out, HBr.out]; exact KP1.out.size
            refine ⟨_, updF s k b1, updF r k r1, bp2, fun i hi => ?_, fun i hi => ?_, fun i hi => ?_, fun i j hij hj => ?_, LW.out.trans (kk.below (B := base) BS.out (fun j e => by have e : j = wb := e; rw [e]; exact BW.out)), Nat.le_trans BS.out kk.size⟩
            · unfold updK; rw [if_neg (by omega), if_neg (by omega)]; exact LZ.out i hi
            · by_cases e : i = k
              · subst e
                rw [updF_at, updF_at]
                refine ⟨by unfold updK; rw [if_neg (by omega), if_pos rfl], by unfold updK; rw [if_pos (by omega)]⟩
              · rw [updF_ne e, updF_ne e]
                refine ⟨by unfold updK; rw [if_neg (by omega), if_neg (by omega)]; exact (LP.out i (by omega)).1, by unfold updK; rw [if_neg (by omega), if_neg (by omega)]; exact (LP.out i (by omega)).2⟩
            · by_cases e : i = k
              · subst e
                rw [updF_at, updF_at]
                exact ⟨BU1.out.kept kp2 (fun j hj e => by
                  rcases hj with hj | hj
                  · have := NB1.out; have e : j = wb := e; omega
                  · cases hj), hRb⟩
              · rw [updF_ne e, updF_ne e]
                have hw := WNE.out i (by omega)
                exact ⟨(LB.out i (by omega)).1.kept kk (fun j hj e => by
                  rcases hj with hj | hj
                  · exact hw.1 (hj.symm.trans e)
                  · cases hj), (LB.out i (by omega)).2.keptS kk (fun j hj e => by
                  rcases hj with hj | hj
                  · exact hw.2 (hj.symm.trans e)
                  · cases hj)⟩
            · have hi : i < k := by omega
              rw [updF_ne (show i ≠ k by omega), updF_ne (show i ≠ k by omega)]
              by_cases e : j = k
              · subst e
                rw [updF_at, updF_at]
                have := oldS i hi; have := NB1.out
                exact ⟨by omega, by omega⟩
              · rw [updF_ne e, updF_ne e]; exact LD.out i j hij (by omega)
          have cE := bp2.cS HK.out (show updK (updK l (17 + k) (.pointer (some ⟨b1, 0, none⟩))) (17 + (2 + k)) (.pointer (some ⟨r1, 0, none⟩)) (17 + k) = .pointer (some ⟨b1, 0, none⟩) by unfold updK; rw [if_neg (by omega), if_pos rfl])
          clear kp2 bp2 hRb hnr wlt kk mz oz hsn hr1
          go_wp2_with fail
          go_roundw
          case rel =>
            obtain ⟨l, s, r, h⟩ := NXT.out
            exact ⟨k + 1, l, s, r, HK.out, (by first | rw [wrap_succB k (by have := HK.out; omega)] | simp), h⟩
          case measure => have := HK.out; simp [intOf]; omega
    · obtain rfl : k = 2 := by omega
      have H0 := Bx.mk (ew_first LBP.out LZ.out LP.out LB.out (LD.out 0 1 (by decide) (by decide)) BW.out)
      clear hlt hk LBP LZ LP LB LD
      obtain ⟨w2, hw2⟩ : ∃ w2, w2 = wr := ⟨_, rfl⟩
      rw [← hw2] at H0 LW BS ⊢
      have LW2 := LW; have BS2 := BS
      clear hw2 LW BS X0 BP0 S0 KB
      go_wp2_with fail
      go_loopw [4, 6] (fun zv iv wr => ∃ t : Nat, t ≤ n ∧ zv = .int .i64 ((szE us t : Nat) : Int) ∧ iv = .int .i64 (t : Int) ∧ szE us t ≤ 1048576 ∧ EWx base wr wb (5 * szE us t) ∧ Below base w wr ∧ base ≤ wr.heap.size) (fun _ iv _ => n - (intOf iv).toNat)
      case atStart => exact ⟨0, Nat.zero_le _, rfl, rfl, Nat.zero_le _, H0.out, LW2.out, BS2.out⟩
      case round =>
        obtain ⟨t, ht, rfl, rfl, hz, hx, hb, hs⟩ := hrel
        obtain ⟨z, hzz⟩ : ∃ z, z = szE us t := ⟨_, rfl⟩
        rw [← hzz] at hz hx ⊢
        have HZZ := Bx.mk hzz; have EX := Bx.mk hx; have BT := Bx.mk hb; have ST := Bx.mk hs; have ZL := Bx.mk hz
        clear hzz hx hb hs
        by_cases hlt : t < n
        · have TL := Bx.mk hlt
          have TE := Bx.mk (show t < us.length by rw [← HN.out]; exact hlt)
          obtain ⟨B, off, rfl, hBl, hr⟩ := (HU.out wr BT.out).at TE.out
          have hal := HA.out _ (List.getElem_mem TE.out)
          have hsucc := szE_succ us t TE.out
          obtain ⟨kd, hkd⟩ : ∃ q, q = (us[t]'(TE.out)).kd := ⟨_, rfl⟩
          obtain ⟨on, hon⟩ : ∃ q, q = (us[t]'(TE.out)).on := ⟨_, rfl⟩
          obtain ⟨size, hsize⟩ : ∃ q, q = (us[t]'(TE.out)).size := ⟨_, rfl⟩
          obtain ⟨ha, hha⟩ : ∃ q, q = (us[t]'(TE.out)).ha := ⟨_, rfl⟩
          obtain ⟨hl, hhl⟩ : ∃ q, q = (us[t]'(TE.out)).hl := ⟨_, rfl⟩
          obtain ⟨hc, hhc⟩ : ∃ q, q = (us[t]'(TE.out)).hc := ⟨_, rfl⟩
          obtain ⟨hs, hhs⟩ : ∃ q, q = (us[t]'(TE.out)).hs := ⟨_, rfl⟩
          rw [show opes (us[t]'(TE.out)) = [.int .i64 kd, .int .i64 on, .int .u64 (size : Int), .slice ha hl hc] by rw [hkd, hon, hsize, hha, hhl, hhc]; rfl] at hr
          rw [← hsize, ← hha, ← hhl, ← hhc, ← hhs] at hal
          rw [← hhl, ← HZZ.out] at hsucc
          have HAL := Bx.mk hal; have HSU := Bx.mk hsucc; have BLT := Bx.mk hBl
          have RG := Bx.mk hr
          have c3 := hr 3 _ rfl
          obtain ⟨z1, hz1⟩ : ∃ z1, z1 = z + 1 + hl := ⟨_, rfl⟩
          have HZ1 := Bx.mk hz1
          have hlb : hl ≤ 140737488351232 := hal.2.2.2
          have f1 : (t : Int) < (n : Int) := by omega
          have f2 : ¬ (n : Int) ≤ (t : Int) := by omega
          have HLB := Bx.mk hlb
          clear hal hsucc hkd hon hsize hha hhl hhc hhs hlt ht hr hz1 hBl
          go_upto_region 14 with (fail)
          rw [show ((z : Int) + 1 + (hl : Int)) = ((z1 : Nat) : Int) by rw [HZ1.out]; omega]
          clear c3 hlb hz
          have hbe := beyond_any (wr.alloc (.cells #[.int .i64 (z1 : Int)] 3)) (.slice (some ⟨wr.heap.size, 0, none⟩) 1 1) [z1] (ints_one _ _ _ rfl) (by have := ZL.out; have := HLB.out; have := HZ1.out; simp; omega)
          rw [show ([z1] : List Nat).sum = z1 by simp] at hbe
          have KA := Bx.mk (er_al (Below.refl wr.heap.size wr) (.cells #[.int .i64 (z1 : Int)] 3))
          by_cases hgt : 1048576 < z1
          · rw [show decide (1048576 < z1) = true from decide_eq_true hgt] at hbe
            have HBE := Bx.mk hbe
            clear hgt hbe
            go_wp2_with fail
            refine HBE.out.mono ?_
            rintro e w3 ⟨rfl, hb⟩
            subst hb
            have FB := Bx.mk (show Below w.heap.size w (wr.alloc (.cells #[.int .i64 (z1 : Int)] 3)) by rw [← HBS.out]; exact BT.out.trans (KA.out.mono ST.out))
            clear f1 f2
            go_wp2_with fail
            go_ret
            exact ⟨rfl, FB.out⟩
          · rw [show decide (1048576 < z1) = false from decide_eq_false hgt] at hbe
            have HBE := Bx.mk hbe
            have Z1L := Bx.mk (show z1 ≤ 1048576 by omega)
            clear hgt hbe
            go_wp2_with fail
            refine HBE.out.mono ?_
            rintro e w3 ⟨rfl, hb⟩
            subst hb
            have E3 := Bx.mk (EX.out.below KA.out); have B3 := Bx.mk (BT.out.trans (KA.out.mono ST.out)); have S3 := Bx.mk (Nat.le_trans ST.out KA.out.size)
            have R3 := Bx.mk (rangeB RG.out BLT.out KA.out)
            generalize wr.alloc (.cells #[.int .i64 (z1 : Int)] 3) = W3 at E3 B3 S3 R3 ⊢
            have HS3 : Bx (∀ u', Below base W3 u' → Hss u' (.slice ha hl hc) hs) := ⟨fun u' hu => HAL.out.2.1.below (by rw [← HBS.out]; exact B3.out.trans hu)⟩
            have CD := Bx.mk (doesX A base W3 wb _ E3.out S3.out (fun u hu => HE.out u (B3.out.trans hu)) (by have := ZL.out; omega) kd on size HAL.out.1 ha hl hc hs HS3.out HAL.out.2.2.1 (by have := Z1L.out; have := HZ1.out; omega))
            clear HBE KA RG
            go_wp2_with (guard_target =~ wpList _ _ _ (⟨some 54, _, _, _, _, _⟩ :: _) _ _; refine wpList_load_mid rfl 53 (.tmp 53) rfl B (off + t * 4) rfl [.int .i64 kd, .int .i64 on, .int .u64 (size : Int), .slice ha hl hc] _ R3.out Tryz.underlying53 rfl (by kernel_rfl) ?_; change wpList _ _ _ _ (Act.put _ _ (.agg #[.int .i64 kd, .int .i64 on, .int .u64 (size : Int), .slice ha hl hc])) _)
            refine CD.out.mono ?_
            rintro e u4 ⟨rfl, hx, hb⟩
            have E4 := Bx.mk hx; have B4 := Bx.mk (B3.out.trans hb); have S4 := Bx.mk (Nat.le_trans S3.out hb.size)
            have CL := Bx.mk (looksX A base u4 wb _ E4.out S4.out (fun u hu => HE.out u (B4.out.trans hu)) (by have := ZL.out; have := Z1L.out; have := HZ1.out; omega) 0 (by decide))
            clear hx hb CD f1 f2
            go_wp2_with fail
            refine CL.out.mono ?_
            rintro e u5 ⟨rfl, hx, hb⟩
            have E5 := Bx.mk hx; have B5 := Bx.mk (B4.out.trans hb); have S5 := Bx.mk (Nat.le_trans S4.out hb.size)
            have CM := Bx.mk (looksX A base u5 wb _ E5.out S5.out (fun u hu => HE.out u (B5.out.trans hu)) (by have := ZL.out; have := Z1L.out; have := HZ1.out; omega) 1 (by decide))
            clear hx hb CL
            go_wp2_with fail
            refine CM.out.mono ?_
            rintro e u6 ⟨rfl, hx, hb⟩
            have E6 := Bx.mk (show EWx base u6 wb (5 * z1) from by
              obtain ⟨D, h, hq⟩ := hx
              exact ⟨D, h, by have := HZ1.out; omega⟩)
            have B6 := Bx.mk (B5.out.trans hb); have S6 := Bx.mk (Nat.le_trans S5.out hb.size)
            clear hx hb CM
            go_wp2_with fail
            go_roundw
            case rel => exact ⟨_, _, _, _, _, _, _, _, _, _, _, _, _, _, _, _, _, _, _, _, _, _, _, _, _, _, _, _, _, _, _, _, _, _, _, _, _, _, ⟨t + 1, TL.out, (by rw [HSU.out, HZ1.out]), (by first | rw [wrap_succB t (by have := TE.out; have := NM.out; unfold maxLen at this; omega)] | simp), (by rw [HSU.out, ← HZ1.out]; exact Z1L.out), (by rw [HSU.out, ← HZ1.out]; exact E6.out), B6.out, S6.out⟩, rfl⟩
            case measure => first | (rw [wrap_succB t (by have := TE.out; have := NM.out; unfold maxLen at this; omega)]; have := TL.out; simp [intOf]; omega) | (have := TL.out; simp [intOf]; omega)
        · obtain rfl : t = n := by omega
          have f1 : ¬ (t : Int) < (t : Int) := by omega
          have CL := Bx.mk (looksX A base wr wb _ EX.out ST.out (fun u hu => HE.out u (BT.out.trans hu)) (by have := ZL.out; omega) 0 (by decide))
          clear hlt ht hz
          go_wp2_with fail
          refine CL.out.mono ?_
          rintro e u5 ⟨rfl, hx, hb⟩
          have E5 := Bx.mk hx; have B5 := Bx.mk (BT.out.trans hb); have S5 := Bx.mk (Nat.le_trans ST.out hb.size)
          have CM := Bx.mk (looksX A base u5 wb _ E5.out S5.out (fun u hu => HE.out u (B5.out.trans hu)) (by have := ZL.out; omega) 1 (by decide))
          clear hx hb CL f1
          go_wp2_with fail
          refine CM.out.mono ?_
          rintro e u6 ⟨rfl, hx, hb⟩
          have E6 := Bx.mk hx; have B6 := Bx.mk (B5.out.trans hb); have S6 := Bx.mk (Nat.le_trans S5.out hb.size)
          have CA := Bx.mk (apartX base u6 wb _ E6.out S6.out (by have := ZL.out; omega))
          clear hx hb CM
          go_wp2_with fail
          refine CA.out.mono ?_
          rintro e u7 ⟨rfl, hx, hb⟩
          have E7 := Bx.mk hx; have B7 := Bx.mk (B6.out.trans hb); have S7 := Bx.mk (Nat.le_trans S6.out hb.size)
          have CL := Bx.mk (looksX A base u7 wb _ E7.out S7.out (fun u hu => HE.out u (B7.out.trans hu)) (by have := ZL.out; omega) 0 (by decide))
          clear hx hb CA
          go_wp2_with fail
          refine CL.out.mono ?_
          rintro e u8 ⟨rfl, hx, hb⟩
          have E8 := Bx.mk hx; have B8 := Bx.mk (B7.out.trans hb); have S8 := Bx.mk (Nat.le_trans S7.out hb.size)
          have CM := Bx.mk (looksX A base u8 wb _ E8.out S8.out (fun u hu => HE.out u (B8.out.trans hu)) (by have := ZL.out; omega) 1 (by decide))
          clear hx hb CL
          go_wp2_with fail
          refine CM.out.mono ?_
          rintro e u9 ⟨rfl, hx, hb⟩
          have FB := Bx.mk (show Below w.heap.size w u9 by rw [← HBS.out]; exact B8.out.trans hb)
          clear hx hb CM
          go_wp2_with fail
          go_ret
          exact ⟨rfl, FB.out⟩
end Go.Proofs.YtbhcaalelfaceaaGreatDoor
