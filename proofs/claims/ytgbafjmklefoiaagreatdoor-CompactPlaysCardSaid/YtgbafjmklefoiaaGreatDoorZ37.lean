/- cartularylaw09.does. -/
import Derived.Test.YtgbafjmklefoiaaGreatDoorZ36
import Derived.Test.YtgbafjmklefoiaaGreatDoorZ27
namespace Go.Proofs.YtgbafjmklefoiaaGreatDoor
set_option maxRecDepth 100000
open Go.RowKit
/-- what does leaves -/
def DoesC (base : Nat) (w : World) (wb : Nat) (D : CD) (e : Ending) (w' : World) : Prop :=
  e = .returned (.bool true) ∧ ∃ D', CW base w' wb D' ∧ Keep (D.F wb) w w' ∧ ∀ k, D'.F wb k → D.F wb k ∨ w.heap.size ≤ k
/-- what the calls want of the world -/
structure Ec9 (A : Nat → Addr) (w : World) : Prop where
  er : Errs w A
  ts : TabS w
  tz : TabZ w
  lt : 4 < w.heap.size
def PtC (P : Nat → Prop) (v : Value) : Prop := ∃ b, v = .pointer (some ⟨b, 0, none⟩) ∧ P b
def StC8 (own : Nat → Option Nat) (w : World) (wb q k : Nat) (cs : Array Value) (P : Nat → Prop) : Prop := ∃ b, OutV own w wb q 30 (cs.setIfInBounds k (.pointer (some ⟨b, 0, none⟩))) ∧ P b
/-- a new range of the program, of the document -/
def NrC (own : Nat → Option Nat) (w : World) (base Z b n : Nat) : Prop := RaP base w b n n [] (.slice none 0 0) ∧ own b = none ∧ Z ≤ b
theorem Rel.kpC {mk : Nat → Option Nat} {i : Nat} {own own' : Nat → Option Nat} {w w' : World} (r : Rel mk i own w own' w') : Keep (fun j => own j = some i) w w' := ⟨r.os, r.tape, r.output, r.size, fun k hk hn => r.keep k hk hn⟩
theorem RaS_nil {b j : Nat} (h : RaS b (.slice none 0 0) j) : j = b := h.elim id (fun e => by cases e)
theorem RmS_nil {b j : Nat} (h : RmS b (.slice none 0 0) j) : j = b := h.elim id (fun e => by cases e)
theorem NrC.stable {mk own own' : Nat → Option Nat} {w w' : World} {i base Z b n : Nat} (h : NrC own w base Z b n) (r : Rel mk i own w own' w') : NrC own' w' base Z b n :=
  ⟨h.1.kept r.kpC (fun j hj e => by rw [RaS_nil hj, h.2.1] at e; cases e), (r.owns b (h.1.lt b (.inl rfl))).trans h.2.1, h.2.2⟩
def NmC (own : Nat → Option Nat) (w : World) (base Z b n : Nat) : Prop := RmP base w b n n [] (.slice none 0 0) ∧ own b = none ∧ Z ≤ b
theorem NmC.stable {mk own own' : Nat → Option Nat} {w w' : World} {i base Z b n : Nat} (h : NmC own w base Z b n) (r : Rel mk i own w own' w') : NmC own' w' base Z b n :=
  ⟨h.1.kept r.kpC (fun j hj e => by rw [RmS_nil hj, h.2.1] at e; cases e), (r.owns b (h.1.lt b (.inl rfl))).trans h.2.1, h.2.2⟩
/-- a range of the program's, of the document's, that is new -/
def NrL (own : Nat → Option Nat) (w : World) (base Z b B E : Nat) (l : List (Nat × Nat × List UInt8)) : Prop := ∃ t, RaP base w b B E l t ∧ ∀ j, RaS b t j → own j = none ∧ Z ≤ j
def NmL (own : Nat → Option Nat) (w : World) (base Z b B E : Nat) (l : List (Nat × Nat × List UInt8)) : Prop := ∃ t, RmP base w b B E l t ∧ ∀ j, RmS b t j → own j = none ∧ Z ≤ j
theorem NrL.stable {mk own own' : Nat → Option Nat} {w w' : World} {i base Z b B E : Nat} {l : List (Nat × Nat × List UInt8)} (h : NrL own w base Z b B E l) (r : Rel mk i own w own' w') : NrL own' w' base Z b B E l := by
  obtain ⟨t, h1, h2⟩ := h
  exact ⟨t, h1.kept r.kpC (fun j hj e => by rw [(h2 j hj).1] at e; cases e), fun j hj => ⟨(r.owns j (h1.lt j hj)).trans (h2 j hj).1, (h2 j hj).2⟩⟩
theorem NmL.stable {mk own own' : Nat → Option Nat} {w w' : World} {i base Z b B E : Nat} {l : List (Nat × Nat × List UInt8)} (h : NmL own w base Z b B E l) (r : Rel mk i own w own' w') : NmL own' w' base Z b B E l := by
  obtain ⟨t, h1, h2⟩ := h
  exact ⟨t, h1.kept r.kpC (fun j hj e => by rw [(h2 j hj).1] at e; cases e), fun j hj => ⟨(r.owns j (h1.lt j hj)).trans (h2 j hj).1, (h2 j hj).2⟩⟩
namespace K2
def VO23 (D : CD) (wb i k N base E2 Z : Nat) (l2 : List (Nat × Nat × List UInt8)) (ev : Value) (fc fa : Int) (ha : Option Addr) (hl hc : Nat) (hs : List (List UInt8)) (oi : Nat) (v : Value) (own : Nat → Option Nat) (w : World) : Prop :=
  match oi with
  | 0 => v = .pointer (some ⟨wb, 0, none⟩)
  | 1 => v = .int .i64 (i : Int)
  | 2 => v = .pointer (some ⟨wb, 0, none⟩)
  | 3 => v = .pointer (some ⟨wb, 0, none⟩)
  | 4 => v = .pointer (some ⟨wb, i, none⟩)
  | 5 => v = .pointer (some ⟨(D.r i), 0, none⟩)
  | 6 => v = .pointer (some ⟨N, 6, none⟩)
  | 7 => v = .slice ha hl hc
  | 8 => v = .agg (ocells (head9 hs))
  | 9 => v = ev ∧ RaW own w 9 8 base (D.r i) (D.B i) E2 l2 (D.sv i) Z
  | 10 => v = .pointer (some ⟨wb, 0, none⟩)
  | 11 => v = .int .i64 (i : Int)
  | 12 => v = .pointer (some ⟨wb, 0, none⟩)
  | 13 => v = .pointer (some ⟨wb, 4, none⟩)
  | 14 => v = .pointer (some ⟨wb, 4 + i, none⟩)
  | 15 => v = .pointer (some ⟨(D.d i), 0, none⟩)
  | 16 => v = .pointer (some ⟨N, 6, none⟩)
  | 17 => v = .slice ha hl hc
  | 18 => v = .agg (ocells (head9 hs))
  | 19 => v = .agg #[.int .i64 fc, .int .i64 fa] ∧ RmW own w 19 18 base (D.d i) (D.B i) E2 l2 (D.dv i) Z
  | 20 => v = .bool true
  | 21 => v = .bool true
  | _ => True
def VO23mk : Nat → Option Nat := fun j => match j with | 8 => some 9 | 18 => some 19 | _ => none
theorem VO23_mono (D : CD) (wb i k N base E2 Z : Nat) (l2 : List (Nat × Nat × List UInt8)) (ev : Value) (fc fa : Int) (ha : Option Addr) (hl hc : Nat) (hs : List (List UInt8)) (oi oj : Nat) (v : Value) (own : Nat → Option Nat) (w : World) (own' : Nat → Option Nat) (w' : World) (hij : oi ≠ oj)  (hx0 : oi = 8 → oj = 9 → False) (hx1 : oi = 18 → oj = 19 → False) (h : VO23 D wb i k N base E2 Z l2 ev fc fa ha hl hc hs oj v own w) (r1 : Rel VO23mk oi own w own' w') : VO23 D wb i k N base E2 Z l2 ev fc fa ha hl hc hs oj v own' w' := by
  unfold VO23 at h ⊢
  split at h
  · exact h
  · exact h
  · exact h
  · exact h
  · exact h
  · exact h
  · exact h
  · exact h
  · exact h
  · exact ⟨h.1, h.2.stable r1 hij (fun e => hx0 e rfl)⟩
  · exact h
  · exact h
  · exact h
  · exact h
  · exact h
  · exact h
  · exact h
  · exact h
  · exact h
  · exact ⟨h.1, h.2.stable r1 hij (fun e => hx1 e rfl)⟩
  · exact h
  · exact h
  · trivial

def VO25 (D : CD) (wb i k N base E2 Z : Nat) (l2 : List (Nat × Nat × List UInt8)) (ev : Value) (fc fa : Int) (ha : Option Addr) (hl hc : Nat) (hs : List (List UInt8)) (oi : Nat) (v : Value) (own : Nat → Option Nat) (w : World) : Prop :=
  match oi with
  | 0 => v = .pointer (some ⟨wb, 0, none⟩)
  | 1 => v = .int .i64 (i : Int)
  | 2 => v = .pointer (some ⟨wb, 0, none⟩)
  | 3 => v = .pointer (some ⟨wb, 0, none⟩)
  | 4 => v = .pointer (some ⟨wb, i, none⟩)
  | 5 => v = .pointer (some ⟨(D.r i), 0, none⟩)
  | 6 => v = .pointer (some ⟨wb, 0, none⟩)
  | 7 => v = .int .i64 (k : Int)
  | 8 => v = .pointer (some ⟨wb, 0, none⟩)
  | 9 => v = .pointer (some ⟨wb, 0, none⟩)
  | 10 => v = .pointer (some ⟨wb, k, none⟩)
  | 11 => v = .pointer (some ⟨(D.r k), 0, none⟩)
  | 12 => v = ev ∧ RaW own w 12 11 base (D.r i) (D.B i) E2 l2 (D.sv i) Z
  | 13 => v = .pointer (some ⟨wb, 0, none⟩)
  | 14 => v = .int .i64 (i : Int)
  | 15 => v = .pointer (some ⟨wb, 0, none⟩)
  | 16 => v = .pointer (some ⟨wb, 4, none⟩)
  | 17 => v = .pointer (some ⟨wb, 4 + i, none⟩)
  | 18 => v = .pointer (some ⟨(D.d i), 0, none⟩)
  | 19 => v = .pointer (some ⟨wb, 0, none⟩)
  | 20 => v = .int .i64 (k : Int)
  | 21 => v = .pointer (some ⟨wb, 0, none⟩)
  | 22 => v = .pointer (some ⟨wb, 4, none⟩)
  | 23 => v = .pointer (some ⟨wb, 4 + k, none⟩)
  | 24 => v = .pointer (some ⟨(D.d k), 0, none⟩)
  | 25 => v = .agg #[.int .i64 fc, .int .i64 fa] ∧ RmW own w 25 24 base (D.d i) (D.B i) E2 l2 (D.dv i) Z
  | 26 => v = .bool true
  | 27 => v = .bool true
  | _ => True
def VO25mk : Nat → Option Nat := fun j => match j with | 11 => some 12 | 24 => some 25 | _ => none
theorem VO25_mono (D : CD) (wb i k N base E2 Z : Nat) (l2 : List (Nat × Nat × List UInt8)) (ev : Value) (fc fa : Int) (ha : Option Addr) (hl hc : Nat) (hs : List (List UInt8)) (oi oj : Nat) (v : Value) (own : Nat → Option Nat) (w : World) (own' : Nat → Option Nat) (w' : World) (hij : oi ≠ oj)  (hx0 : oi = 11 → oj = 12 → False) (hx1 : oi = 24 → oj = 25 → False) (h : VO25 D wb i k N base E2 Z l2 ev fc fa ha hl hc hs oj v own w) (r1 : Rel VO25mk oi own w own' w') : VO25 D wb i k N base E2 Z l2 ev fc fa ha hl hc hs oj v own' w' := by
  unfold VO25 at h ⊢
  split at h
  · exact h
  · exact h
  · exact h
  · exact h
  · exact h
  · exact h
  · exact h
  · exact h
  · exact h
  · exact h
  · exact h
  · exact h
  · exact ⟨h.1, h.2.stable r1 hij (fun e => hx0 e rfl)⟩
  · exact h
  · exact h
  · exact h
  · exact h
  · exact h
  · exact h
  · exact h
  · exact h
  · exact h
  · exact h
  · exact h
  · exact h
  · exact ⟨h.1, h.2.stable r1 hij (fun e => hx1 e rfl)⟩
  · exact h
  · exact h
  · trivial

end K2
def VO5 (wb i N nn base Z : Nat) (cs : Array Value) (oi : Nat) (v : Value) (own : Nat → Option Nat) (w : World) : Prop :=
  match oi with
  | 0 => v = .pointer (some ⟨wb, 0, none⟩)
  | 1 => v = .int .i64 (i : Int)
  | 2 => v = .pointer (some ⟨N, 3, none⟩)
  | 3 => v = .int .u64 (nn : Int)
  | 4 => PtC (fun b => NrC own w base Z b nn) v
  | 5 => v = .pointer (some ⟨wb, 0, none⟩)
  | 6 => v = .pointer (some ⟨wb, 0, none⟩)
  | 7 => v = .pointer (some ⟨wb, i, none⟩)
  | 8 => StC8 own w wb 8 (i) cs (fun b => NrC own w base Z b nn)
  | _ => True
def VO5mk : Nat → Option Nat := fun _ => none
theorem VO5_mono (wb i N nn base Z : Nat) (cs : Array Value) (oi oj : Nat) (v : Value) (own : Nat → Option Nat) (w : World) (own' : Nat → Option Nat) (w' : World) (hij : oi ≠ oj)   (h : VO5 wb i N nn base Z cs oj v own w) (r1 : Rel VO5mk oi own w own' w') : VO5 wb i N nn base Z cs oj v own' w' := by
  unfold VO5 at h ⊢
  split at h
  · exact h
  · exact h
  · exact h
  · exact h
  · obtain ⟨b, e, h⟩ := h; exact ⟨b, e, h.stable r1⟩
  · exact h
  · exact h
  · exact h
  · obtain ⟨b, h1, h2⟩ := h; exact ⟨b, h1.stable r1 hij, h2.stable r1⟩
  · trivial

def VO6 (wb i N nn base Z : Nat) (cs : Array Value) (oi : Nat) (v : Value) (own : Nat → Option Nat) (w : World) : Prop :=
  match oi with
  | 0 => v = .pointer (some ⟨wb, 0, none⟩)
  | 1 => v = .int .i64 (i : Int)
  | 2 => v = .pointer (some ⟨N, 3, none⟩)
  | 3 => v = .int .u64 (nn : Int)
  | 4 => PtC (fun b => NmC own w base Z b nn) v
  | 5 => v = .pointer (some ⟨wb, 0, none⟩)
  | 6 => v = .pointer (some ⟨wb, 4, none⟩)
  | 7 => v = .pointer (some ⟨wb, 4 + i, none⟩)
  | 8 => StC8 own w wb 8 (4 + i) cs (fun b => NmC own w base Z b nn)
  | _ => True
def VO6mk : Nat → Option Nat := fun _ => none
theorem VO6_mono (wb i N nn base Z : Nat) (cs : Array Value) (oi oj : Nat) (v : Value) (own : Nat → Option Nat) (w : World) (own' : Nat → Option Nat) (w' : World) (hij : oi ≠ oj)   (h : VO6 wb i N nn base Z cs oj v own w) (r1 : Rel VO6mk oi own w own' w') : VO6 wb i N nn base Z cs oj v own' w' := by
  unfold VO6 at h ⊢
  split at h
  · exact h
  · exact h
  · exact h
  · exact h
  · obtain ⟨b, e, h⟩ := h; exact ⟨b, e, h.stable r1⟩
  · exact h
  · exact h
  · exact h
  · obtain ⟨b, h1, h2⟩ := h; exact ⟨b, h1.stable r1 hij, h2.stable r1⟩
  · trivial

def VO27 (D : CD) (wb i k base Z B E : Nat) (l : List (Nat × Nat × List UInt8)) (cs : Array Value) (oi : Nat) (v : Value) (own : Nat → Option Nat) (w : World) : Prop :=
  match oi with
  | 0 => v = .pointer (some ⟨wb, 0, none⟩)
  | 1 => v = .int .i64 (k : Int)
  | 2 => v = .pointer (some ⟨wb, 0, none⟩)
  | 3 => v = .int .i64 (i : Int)
  | 4 => v = .pointer (some ⟨wb, 0, none⟩)
  | 5 => v = .pointer (some ⟨wb, 0, none⟩)
  | 6 => v = .pointer (some ⟨wb, i, none⟩)
  | 7 => v = .pointer (some ⟨(D.r i), 0, none⟩)
  | 8 => PtC (fun b => NrL own w base Z b B E l) v
  | 9 => v = .pointer (some ⟨wb, 0, none⟩)
  | 10 => v = .pointer (some ⟨wb, 0, none⟩)
  | 11 => v = .pointer (some ⟨wb, k, none⟩)
  | 12 => StC8 own w wb 12 (k) cs (fun b => NrL own w base Z b B E l)
  | _ => True
def VO27mk : Nat → Option Nat := fun _ => none
theorem VO27_mono (D : CD) (wb i k base Z B E : Nat) (l : List (Nat × Nat × List UInt8)) (cs : Array Value) (oi oj : Nat) (v : Value) (own : Nat → Option Nat) (w : World) (own' : Nat → Option Nat) (w' : World) (hij : oi ≠ oj)   (h : VO27 D wb i k base Z B E l cs oj v own w) (r1 : Rel VO27mk oi own w own' w') : VO27 D wb i k base Z B E l cs oj v own' w' := by
  unfold VO27 at h ⊢
  split at h
  · exact h
  · exact h
  · exact h
  · exact h
  · exact h
  · exact h
  · exact h
  · exact h
  · obtain ⟨b, e, h⟩ := h; exact ⟨b, e, h.stable r1⟩
  · exact h
  · exact h
  · exact h
  · obtain ⟨b, h1, h2⟩ := h; exact ⟨b, h1.stable r1 hij, h2.stable r1⟩
  · trivial

def VO28 (D : CD) (wb i k base Z B E : Nat) (l : List (Nat × Nat × List UInt8)) (cs : Array Value) (oi : Nat) (v : Value) (own : Nat → Option Nat) (w : World) : Prop :=
  match oi with
  | 0 => v = .pointer (some ⟨wb, 0, none⟩)
  | 1 => v = .int .i64 (k : Int)
  | 2 => v = .pointer (some ⟨wb, 0, none⟩)
  | 3 => v = .int .i64 (i : Int)
  | 4 => v = .pointer (some ⟨wb, 0, none⟩)
  | 5 => v = .pointer (some ⟨wb, 4, none⟩)
  | 6 => v = .pointer (some ⟨wb, 4 + i, none⟩)
  | 7 => v = .pointer (some ⟨(D.d i), 0, none⟩)
  | 8 => PtC (fun b => NmL own w base Z b B E l) v
  | 9 => v = .pointer (some ⟨wb, 0, none⟩)
  | 10 => v = .pointer (some ⟨wb, 4, none⟩)
  | 11 => v = .pointer (some ⟨wb, 4 + k, none⟩)
  | 12 => StC8 own w wb 12 (4 + k) cs (fun b => NmL own w base Z b B E l)
  | _ => True
def VO28mk : Nat → Option Nat := fun _ => none
theorem VO28_mono (D : CD) (wb i k base Z B E : Nat) (l : List (Nat × Nat × List UInt8)) (cs : Array Value) (oi oj : Nat) (v : Value) (own : Nat → Option Nat) (w : World) (own' : Nat → Option Nat) (w' : World) (hij : oi ≠ oj)   (h : VO28 D wb i k base Z B E l cs oj v own w) (r1 : Rel VO28mk oi own w own' w') : VO28 D wb i k base Z B E l cs oj v own' w' := by
  unfold VO28 at h ⊢
  split at h
  · exact h
  · exact h
  · exact h
  · exact h
  · exact h
  · exact h
  · exact h
  · exact h
  · obtain ⟨b, e, h⟩ := h; exact ⟨b, e, h.stable r1⟩
  · exact h
  · exact h
  · exact h
  · obtain ⟨b, h1, h2⟩ := h; exact ⟨b, h1.stable r1 hij, h2.stable r1⟩
  · trivial

set_option maxHeartbeats 6400000 in
theorem does9_any (A : Nat → Addr) (base : Nat) (w : World) (wb : Nat) (D : CD) (h : CW base w wb D) (hbase : base ≤ w.heap.size) (hE : ∀ u, Below base w u → Ec9 A u) (kd wh wi : Int) (nn sb se : Nat) (hnn : nn < 2 ^ 64) (ha : Option Addr) (hl hc : Nat) (hs : List (List UInt8))
    (hH : ∀ u, Below base w u → Hss u (.slice ha hl hc) hs) (hnil : ha = none → hc = 0 ∧ hl = 0) (hlm : hl ≤ 4398046510976) :
    Calls Tryz.prog 7 #[.pointer (some ⟨wb, 0, none⟩), .agg #[.int .i64 kd, .int .i64 wh, .int .i64 wi, .int .u64 (nn : Int), .int .u64 (sb : Int), .int .u64 (se : Int), .slice ha hl hc]] w (DoesC base w wb D) := by
  have kb := er_al (Below.refl w.heap.size w) (.cells #[.int .i64 kd, .int .i64 wh, .int .i64 wi, .int .u64 (nn : Int), .int .u64 (sb : Int), .int .u64 (se : Int), .slice ha hl hc] 57)
  have x0 := heap_alloc_new w (.cells #[.int .i64 kd, .int .i64 wh, .int .i64 wi, .int .u64 (nn : Int), .int .u64 (sb : Int), .int .u64 (se : Int), .slice ha hl hc] 57)
  have h0 := h.below kb
  have HLN : Bx (hl = hs.length) := ⟨by obtain ⟨_, _, e, _⟩ := (hH w (Below.refl _ _)).len; cases e; rfl⟩
  have HE := Bx.mk hE; have HNN := Bx.mk hnn; have HH := Bx.mk hH; have HNL := Bx.mk hnil; have LM := Bx.mk hlm; have BA := Bx.mk hbase; have HLT := Bx.mk h.lt
  clear hE hnn hH hnil hlm hbase
  obtain ⟨i, hi⟩ : ∃ i, i = at9 wh := ⟨_, rfl⟩
  obtain ⟨k, hk⟩ : ∃ k, k = at9 wi := ⟨_, rfl⟩
  have IL := Bx.mk (show i < 4 by rw [hi]; exact at9_lt _); have KL := Bx.mk (show k < 4 by rw [hk]; exact at9_lt _)
  have CI := Bx.mk (fun u => at9_any u wh); have CK' := Bx.mk (fun u => at9_any u wi)
  rw [← hi] at CI
  rw [← hk] at CK'
  clear hi hk h
  go_enter Tryz.func7, Tryz.ntmps7
  go_upto_region 1 with (fail)
  change Code.wp _ _ _ _ (w.alloc (.cells #[.int .i64 kd, .int .i64 wh, .int .i64 wi, .int .u64 (nn : Int), .int .u64 (sb : Int), .int .u64 (se : Int), .slice ha hl hc] 57))
  generalize w.alloc (.cells #[.int .i64 kd, .int .i64 wh, .int .i64 wi, .int .u64 (nn : Int), .int .u64 (sb : Int), .int .u64 (se : Int), .slice ha hl hc] 57) = W at kb x0 h0 ⊢
  obtain ⟨N, hN⟩ : ∃ N, N = w.heap.size := ⟨_, rfl⟩
  rw [← hN] at x0 ⊢
  have HN := Bx.mk hN; have HW := Bx.mk h0; have X0 := Bx.mk x0; have KB := Bx.mk kb
  have d1 := er_cellAt x0 1 _ rfl; have d2 := er_cellAt x0 2 _ rfl; have d0 := er_cellAt x0 0 _ rfl
  clear kb x0 h0 hN
  go_wp2_with fail
  refine (CI.out W).mono ?_
  rintro e w1 ⟨rfl, hw1⟩
  subst hw1
  go_wp2_with fail
  refine (CK'.out w1).mono ?_
  rintro e w2 ⟨rfl, hw2⟩
  subst hw2
  go_upto_region 3 with (fail)
  clear d1 d2 CI CK'
  by_cases h1 : kd = 1
  · subst h1
    go_upto_region 5 with (fail)
    have XB := Bx.mk HW.out.hb
    have WBL := Bx.mk HW.out.wblt
    have XO := X0; have NLT := Bx.mk (Array.getElem?_eq_some_iff.1 X0.out).1
    have NW := Bx.mk (show N ≠ wb from fun e => by have h1 := HLT.out wb (.inl rfl); have h2 := HN.out; omega)
    have NON := Bx.mk (show (if N = wb then some 8 else none : Option Nat) = none from if_neg NW.out)
    have BS := Bx.mk (show base ≤ w2.heap.size from Nat.le_trans BA.out KB.out.size)
    have CG := Bx.mk (D.getR IL.out)
    refine wp_region_own8 (n := 226) VO5mk (fun j => if j = wb then some 8 else none) (VO5 wb i N nn base w2.heap.size D.cells) (by kernel_rfl) (by kernel_rfl) rfl (fun j hj => if_neg (by have := WBL.out; omega)) (fun j i hj _ => by cases hj) ?_ ?_ ?_
    · exact fun oi oj v own w own' w' hij _ h r1 => VO5_mono wb i N nn base w2.heap.size D.cells oi oj v own w own' w' hij h r1
    · intro oi o hi f u own hsame hsn hfr hlate hkeep8 hdep
      have hkeep := hkeep8 _ (.inl rfl)
      match oi, hi with
      | 0, hi =>
        cases (show some _ = some o from hi)
        have e0 : f.tmps.getD 0 undef = .pointer (some ⟨wb, 0, none⟩) := hsame.slot 0 (fun i o h => invB2_not 0 (by kernel_rfl) h)
        clear hdep hsame hi hlate hfr hkeep
        exact .inl ⟨wanted_none rfl, showsO_move hsn rfl _ rfl e0⟩
      | 1, hi =>
        cases (show some _ = some o from hi)
        have e5 : f.tmps.getD 5 undef = .int .i64 (i : Int) := hsame.slot 5 (fun i o h => invB2_not 5 (by kernel_rfl) h)
        clear hdep hsame hi hlate hfr hkeep
        exact .inl ⟨wanted_none rfl, showsO_move hsn rfl _ rfl e5⟩
      | 2, hi =>
        cases (show some _ = some o from hi)
        have e3 : f.tmps.getD 3 undef = .pointer (some ⟨N, 0, none⟩) := hsame.slot 3 (fun i o h => invB2_not 3 (by kernel_rfl) h)
        clear hdep hsame hi hlate hfr hkeep
        exact .inl ⟨wanted_none rfl, showsO_pure hsn rfl (.pointer (some ⟨N, 3, none⟩)) (by simp only [execOp, Act.eval]; go_simp) rfl⟩
      | 3, hi =>
        cases (show some _ = some o from hi)
        have e29 : (f.tmps.getD 29 undef) = .pointer (some ⟨N, 3, none⟩) := depO (V := (VO5 wb i N nn base w2.heap.size D.cells)) hdep 2 29 (by kernel_rfl) (by kernel_rfl)
        clear hdep hsame hi hlate hfr hkeep
        have c3 := er_cellAt ((hsn.keep N NLT.out NON.out).trans XO.out) 3 _ rfl
        exact .inl ⟨wanted_none rfl, showsO_pure hsn rfl (.int .u64 (nn : Int)) (by simp only [execOp, Act.eval]; go_simp) rfl⟩
      | 4, hi =>
        cases (show some _ = some o from hi)
        have e30 : (f.tmps.getD 30 undef) = .int .u64 (nn : Int) := depO (V := (VO5 wb i N nn base w2.heap.size D.cells)) hdep 3 30 (by kernel_rfl) (by kernel_rfl)
        clear hdep hsame hi hlate hfr hkeep
        have c := (rnew_any u nn).mono (fun e w1 ⟨b, h1, h2, h3⟩ => (⟨_, h1, ⟨b, rfl, h2⟩, h3⟩ : ∃ v, e = Ending.returned v ∧ (∃ b, v = Value.pointer (some ⟨b, 0, none⟩) ∧ RaP u.heap.size w1 b nn nn [] (.slice none 0 0)) ∧ Below u.heap.size u w1))
        exact .inl ⟨wanted_none rfl, showsO_call (R := fun v w' => ∃ b, v = .pointer (some ⟨b, 0, none⟩) ∧ RaP u.heap.size w' b nn nn [] (.slice none 0 0)) hsn rfl 5 #[.int .u64 (nn : Int)] (by simp only [execOp, Act.eval]; go_simp) c (fun v w' ⟨b, e, h⟩ _ => ⟨b, e, h.mono (Nat.le_trans BS.out hsn.size), hsn.top b (h.ge b (.inl rfl)), Nat.le_trans hsn.size (h.ge b (.inl rfl))⟩)⟩
      | 5, hi =>
        cases (show some _ = some o from hi)
        have e27 : (f.tmps.getD 27 undef) = .pointer (some ⟨wb, 0, none⟩) := depO (V := (VO5 wb i N nn base w2.heap.size D.cells)) hdep 0 27 (by kernel_rfl) (by kernel_rfl)
        clear hdep hsame hi hlate hfr hkeep
        exact .inl ⟨wanted_none rfl, showsO_pure hsn rfl (.pointer (some ⟨wb, 0, none⟩)) (by simp only [execOp, Act.eval]; go_simp) rfl⟩
      | 6, hi =>
        cases (show some _ = some o from hi)
        have e32 : (f.tmps.getD 32 undef) = .pointer (some ⟨wb, 0, none⟩) := depO (V := (VO5 wb i N nn base w2.heap.size D.cells)) hdep 5 32 (by kernel_rfl) (by kernel_rfl)
        clear hdep hsame hi hlate hfr hkeep
        exact .inl ⟨wanted_none rfl, showsO_pure hsn rfl (.pointer (some ⟨wb, 0, none⟩)) (by simp only [execOp, Act.eval]; go_simp) rfl⟩
      | 7, hi =>
        cases (show some _ = some o from hi)
        have e28 : (f.tmps.getD 28 undef) = .int .i64 (i : Int) := depO (V := (VO5 wb i N nn base w2.heap.size D.cells)) hdep 1 28 (by kernel_rfl) (by kernel_rfl)
        have e33 : (f.tmps.getD 33 undef) = .pointer (some ⟨wb, 0, none⟩) := depO (V := (VO5 wb i N nn base w2.heap.size D.cells)) hdep 6 33 (by kernel_rfl) (by kernel_rfl)
        clear hdep hsame hi hlate hfr hkeep
        have f2 : ¬ (4 : Int) ≤ (i : Int) := by have := IL.out; omega
        have f3 : (i : Int) < 4 := by have := IL.out; omega
        exact .inl ⟨wanted_none rfl, showsO_pure hsn rfl (.pointer (some ⟨wb, i, none⟩)) (by simp only [execOp, Act.eval]; go_simp) rfl⟩
      | 8, hi =>
        cases (show some _ = some o from hi)
        have e31 : PtC (fun b => NrC own u base w2.heap.size b nn) (f.tmps.getD 31 undef) := depO (V := (VO5 wb i N nn base w2.heap.size D.cells)) hdep 4 31 (by kernel_rfl) (by kernel_rfl)
        have e34 : (f.tmps.getD 34 undef) = .pointer (some ⟨wb, i, none⟩) := depO (V := (VO5 wb i N nn base w2.heap.size D.cells)) hdep 7 34 (by kernel_rfl) (by kernel_rfl)
        clear hdep hsame hi hlate hfr hkeep
        obtain ⟨b, e31, N31⟩ := e31
        have hbU := (hkeep8 8 (.inl rfl) wb WBL.out (if_pos rfl)).trans XB.out
        have hst := er_cellAt hbU (i) _ CG.out
        have hfr2 := frozenC hbU (i)
        exact .inl ⟨wanted_none rfl, showsO_store_cell hsn hkeep8 rfl wb (i) D.cells 30 XB.out (if_pos rfl) (.pointer (some ⟨b, 0, none⟩)) (by simp only [execOp, Act.eval]; go_simp) (fun h => ⟨b, h, N31.1.kept (Keep.setCell u ⟨wb, i, none⟩ _) (fun j hj e => by have e : j = wb := e; rw [RaS_nil hj] at e; have h3 := N31.2.1; rw [e, hsn.owns wb WBL.out, if_pos rfl] at h3; cases h3), N31.2⟩)⟩
      | n + 9, hi => exact absurd hi (by simp)
    · intro f W3 own hsame hsn hall
      have q27 : f.tmps.getD 27 undef = .pointer (some ⟨wb, 0, none⟩) := finO (V := (VO5 wb i N nn base w2.heap.size D.cells)) hall 0 27 rfl
      have q28 : f.tmps.getD 28 undef = .int .i64 (i : Int) := finO (V := (VO5 wb i N nn base w2.heap.size D.cells)) hall 1 28 rfl
      have q29 : f.tmps.getD 29 undef = .pointer (some ⟨N, 3, none⟩) := finO (V := (VO5 wb i N nn base w2.heap.size D.cells)) hall 2 29 rfl
      have q30 : f.tmps.getD 30 undef = .int .u64 (nn : Int) := finO (V := (VO5 wb i N nn base w2.heap.size D.cells)) hall 3 30 rfl
      obtain ⟨b31, q31, N31⟩ := finO (V := (VO5 wb i N nn base w2.heap.size D.cells)) hall 4 31 rfl
      have q32 : f.tmps.getD 32 undef = .pointer (some ⟨wb, 0, none⟩) := finO (V := (VO5 wb i N nn base w2.heap.size D.cells)) hall 5 32 rfl
      have q33 : f.tmps.getD 33 undef = .pointer (some ⟨wb, 0, none⟩) := finO (V := (VO5 wb i N nn base w2.heap.size D.cells)) hall 6 33 rfl
      have q34 : f.tmps.getD 34 undef = .pointer (some ⟨wb, i, none⟩) := finO (V := (VO5 wb i N nn base w2.heap.size D.cells)) hall 7 34 rfl
      obtain ⟨bz, ⟨oz, mz⟩, NZ⟩ := finN (V := (VO5 wb i N nn base w2.heap.size D.cells)) hall 8 rfl
      obtain rfl := frame_eq hsame [(27, .pointer (some ⟨wb, 0, none⟩)), (28, .int .i64 (i : Int)), (29, .pointer (some ⟨N, 3, none⟩)), (30, .int .u64 (nn : Int)), (31, (.pointer (some ⟨b31, 0, none⟩))), (32, .pointer (some ⟨wb, 0, none⟩)), (33, .pointer (some ⟨wb, 0, none⟩)), (34, .pointer (some ⟨wb, i, none⟩))] (by kernel_rfl) ⟨q27, q28, q29, q30, q31, q32, q33, q34, trivial⟩
      clear hall hsame q27 q28 q29 q30 q31 q32 q33 q34
      simp only [List.foldl, List.setIfInBounds_toArray, List.set_cons_succ, List.set_cons_zero]
      have kp3 := hsn.keepOne
      have XB3 := Bx.mk mz; have NR3 := Bx.mk (And.intro NZ.1 NZ.2.2)
      have KP3 := Bx.mk kp3
      have XO3 := Bx.mk ((kp3.block N NLT.out NW.out).trans X0.out)
      clear hsn kp3 mz oz NZ N31
      clear own
      have XB2 := XB; have XO2 := XO; have BS2 := BS
      clear XB XO BS CG WBL NLT NON
      go_upto_region 6 with (fail)
      have XB := XB3; have XO := XO3
      have WBL := Bx.mk (Array.getElem?_eq_some_iff.1 XB.out).1; have NLT := Bx.mk (Array.getElem?_eq_some_iff.1 XO.out).1
      have NON := Bx.mk (show (if N = wb then some 8 else none : Option Nat) = none from if_neg NW.out)
      have BS := Bx.mk (show base ≤ W3.heap.size from Nat.le_trans BS2.out KP3.out.size)
      have CG := Bx.mk (show (D.cells.setIfInBounds i (.pointer (some ⟨bz, 0, none⟩)))[4 + i]? = some (.pointer (some ⟨D.d i, 0, none⟩)) from (Array.getElem?_setIfInBounds_ne (by omega)).trans (D.getM IL.out))
      refine wp_region_own8 (n := 226) VO6mk (fun j => if j = wb then some 8 else none) (VO6 wb i N nn base W3.heap.size (D.cells.setIfInBounds i (.pointer (some ⟨bz, 0, none⟩)))) (by kernel_rfl) (by kernel_rfl) rfl (fun j hj => if_neg (by have := WBL.out; omega)) (fun j i hj _ => by cases hj) ?_ ?_ ?_
      · exact fun oi oj v own w own' w' hij _ h r1 => VO6_mono wb i N nn base W3.heap.size (D.cells.setIfInBounds i (.pointer (some ⟨bz, 0, none⟩))) oi oj v own w own' w' hij h r1
      · intro oi o hi f u own hsame hsn hfr hlate hkeep8 hdep
        have hkeep := hkeep8 _ (.inl rfl)
        match oi, hi with
        | 0, hi =>
          cases (show some _ = some o from hi)
          have e0 : f.tmps.getD 0 undef = .pointer (some ⟨wb, 0, none⟩) := hsame.slot 0 (fun i o h => invB2_not 0 (by kernel_rfl) h)
          clear hdep hsame hi hlate hfr hkeep
          exact .inl ⟨wanted_none rfl, showsO_move hsn rfl _ rfl e0⟩
        | 1, hi =>
          cases (show some _ = some o from hi)
          have e5 : f.tmps.getD 5 undef = .int .i64 (i : Int) := hsame.slot 5 (fun i o h => invB2_not 5 (by kernel_rfl) h)
          clear hdep hsame hi hlate hfr hkeep
          exact .inl ⟨wanted_none rfl, showsO_move hsn rfl _ rfl e5⟩
        | 2, hi =>
          cases (show some _ = some o from hi)
          have e3 : f.tmps.getD 3 undef = .pointer (some ⟨N, 0, none⟩) := hsame.slot 3 (fun i o h => invB2_not 3 (by kernel_rfl) h)
          clear hdep hsame hi hlate hfr hkeep
          exact .inl ⟨wanted_none rfl, showsO_pure hsn rfl (.pointer (some ⟨N, 3, none⟩)) (by simp only [execOp, Act.eval]; go_simp) rfl⟩
        | 3, hi =>
          cases (show some _ = some o from hi)
          have e37 : (f.tmps.getD 37 undef) = .pointer (some ⟨N, 3, none⟩) := depO (V := (VO6 wb i N nn base W3.heap.size (D.cells.setIfInBounds i (.pointer (some ⟨bz, 0, none⟩))))) hdep 2 37 (by kernel_rfl) (by kernel_rfl)
          clear hdep hsame hi hlate hfr hkeep
          have c3 := er_cellAt ((hsn.keep N NLT.out NON.out).trans XO.out) 3 _ rfl
          exact .inl ⟨wanted_none rfl, showsO_pure hsn rfl (.int .u64 (nn : Int)) (by simp only [execOp, Act.eval]; go_simp) rfl⟩
        | 4, hi =>
          cases (show some _ = some o from hi)
          have e38 : (f.tmps.getD 38 undef) = .int .u64 (nn : Int) := depO (V := (VO6 wb i N nn base W3.heap.size (D.cells.setIfInBounds i (.pointer (some ⟨bz, 0, none⟩))))) hdep 3 38 (by kernel_rfl) (by kernel_rfl)
          clear hdep hsame hi hlate hfr hkeep
          have c := (rmnew_any u nn).mono (fun e w1 ⟨b, h1, h2, h3⟩ => (⟨_, h1, ⟨b, rfl, h2⟩, h3⟩ : ∃ v, e = Ending.returned v ∧ (∃ b, v = Value.pointer (some ⟨b, 0, none⟩) ∧ RmP u.heap.size w1 b nn nn [] (.slice none 0 0)) ∧ Below u.heap.size u w1))
          exact .inl ⟨wanted_none rfl, showsO_call (R := fun v w' => ∃ b, v = .pointer (some ⟨b, 0, none⟩) ∧ RmP u.heap.size w' b nn nn [] (.slice none 0 0)) hsn rfl 6 #[.int .u64 (nn : Int)] (by simp only [execOp, Act.eval]; go_simp) c (fun v w' ⟨b, e, h⟩ _ => ⟨b, e, h.mono (Nat.le_trans BS.out hsn.size), hsn.top b (h.ge b (.inl rfl)), Nat.le_trans hsn.size (h.ge b (.inl rfl))⟩)⟩
        | 5, hi =>
          cases (show some _ = some o from hi)
          have e35 : (f.tmps.getD 35 undef) = .pointer (some ⟨wb, 0, none⟩) := depO (V := (VO6 wb i N nn base W3.heap.size (D.cells.setIfInBounds i (.pointer (some ⟨bz, 0, none⟩))))) hdep 0 35 (by kernel_rfl) (by kernel_rfl)
          clear hdep hsame hi hlate hfr hkeep
          exact .inl ⟨wanted_none rfl, showsO_pure hsn rfl (.pointer (some ⟨wb, 0, none⟩)) (by simp only [execOp, Act.eval]; go_simp) rfl⟩
        | 6, hi =>
          cases (show some _ = some o from hi)
          have e40 : (f.tmps.getD 40 undef) = .pointer (some ⟨wb, 0, none⟩) := depO (V := (VO6 wb i N nn base W3.heap.size (D.cells.setIfInBounds i (.pointer (some ⟨bz, 0, none⟩))))) hdep 5 40 (by kernel_rfl) (by kernel_rfl)
          clear hdep hsame hi hlate hfr hkeep
          exact .inl ⟨wanted_none rfl, showsO_pure hsn rfl (.pointer (some ⟨wb, 4, none⟩)) (by simp only [execOp, Act.eval]; go_simp) rfl⟩
        | 7, hi =>
          cases (show some _ = some o from hi)
          have e36 : (f.tmps.getD 36 undef) = .int .i64 (i : Int) := depO (V := (VO6 wb i N nn base W3.heap.size (D.cells.setIfInBounds i (.pointer (some ⟨bz, 0, none⟩))))) hdep 1 36 (by kernel_rfl) (by kernel_rfl)
          have e41 : (f.tmps.getD 41 undef) = .pointer (some ⟨wb, 4, none⟩) := depO (V := (VO6 wb i N nn base W3.heap.size (D.cells.setIfInBounds i (.pointer (some ⟨bz, 0, none⟩))))) hdep 6 41 (by kernel_rfl) (by kernel_rfl)
          clear hdep hsame hi hlate hfr hkeep
          have f2 : ¬ (4 : Int) ≤ (i : Int) := by have := IL.out; omega
          have f3 : (i : Int) < 4 := by have := IL.out; omega
          exact .inl ⟨wanted_none rfl, showsO_pure hsn rfl (.pointer (some ⟨wb, 4 + i, none⟩)) (by simp only [execOp, Act.eval]; go_simp) rfl⟩
        | 8, hi =>
          cases (show some _ = some o from hi)
          have e39 : PtC (fun b => NmC own u base W3.heap.size b nn) (f.tmps.getD 39 undef) := depO (V := (VO6 wb i N nn base W3.heap.size (D.cells.setIfInBounds i (.pointer (some ⟨bz, 0, none⟩))))) hdep 4 39 (by kernel_rfl) (by kernel_rfl)
          have e42 : (f.tmps.getD 42 undef) = .pointer (some ⟨wb, 4 + i, none⟩) := depO (V := (VO6 wb i N nn base W3.heap.size (D.cells.setIfInBounds i (.pointer (some ⟨bz, 0, none⟩))))) hdep 7 42 (by kernel_rfl) (by kernel_rfl)
          clear hdep hsame hi hlate hfr hkeep
          obtain ⟨b, e39, N39⟩ := e39
          have hbU := (hkeep8 8 (.inl rfl) wb WBL.out (if_pos rfl)).trans XB.out
          have hst := er_cellAt hbU (4 + i) _ CG.out
          have hfr2 := frozenC hbU (4 + i)
          exact .inl ⟨wanted_none rfl, showsO_store_cell hsn hkeep8 rfl wb (4 + i) (D.cells.setIfInBounds i (.pointer (some ⟨bz, 0, none⟩))) 30 XB.out (if_pos rfl) (.pointer (some ⟨b, 0, none⟩)) (by simp only [execOp, Act.eval]; go_simp) (fun h => ⟨b, h, N39.1.kept (Keep.setCell u ⟨wb, 4 + i, none⟩ _) (fun j hj e => by have e : j = wb := e; rw [RmS_nil hj] at e; have h3 := N39.2.1; rw [e, hsn.owns wb WBL.out, if_pos rfl] at h3; cases h3), N39.2⟩)⟩
        | n + 9, hi => exact absurd hi (by simp)
      · intro f W4 own hsame hsn hall
        have q35 : f.tmps.getD 35 undef = .pointer (some ⟨wb, 0, none⟩) := finO (V := (VO6 wb i N nn base W3.heap.size (D.cells.setIfInBounds i (.pointer (some ⟨bz, 0, none⟩))))) hall 0 35 rfl
        have q36 : f.tmps.getD 36 undef = .int .i64 (i : Int) := finO (V := (VO6 wb i N nn base W3.heap.size (D.cells.setIfInBounds i (.pointer (some ⟨bz, 0, none⟩))))) hall 1 36 rfl
        have q37 : f.tmps.getD 37 undef = .pointer (some ⟨N, 3, none⟩) := finO (V := (VO6 wb i N nn base W3.heap.size (D.cells.setIfInBounds i (.pointer (some ⟨bz, 0, none⟩))))) hall 2 37 rfl
        have q38 : f.tmps.getD 38 undef = .int .u64 (nn : Int) := finO (V := (VO6 wb i N nn base W3.heap.size (D.cells.setIfInBounds i (.pointer (some ⟨bz, 0, none⟩))))) hall 3 38 rfl
        obtain ⟨b39, q39, N39⟩ := finO (V := (VO6 wb i N nn base W3.heap.size (D.cells.setIfInBounds i (.pointer (some ⟨bz, 0, none⟩))))) hall 4 39 rfl
        have q40 : f.tmps.getD 40 undef = .pointer (some ⟨wb, 0, none⟩) := finO (V := (VO6 wb i N nn base W3.heap.size (D.cells.setIfInBounds i (.pointer (some ⟨bz, 0, none⟩))))) hall 5 40 rfl
        have q41 : f.tmps.getD 41 undef = .pointer (some ⟨wb, 4, none⟩) := finO (V := (VO6 wb i N nn base W3.heap.size (D.cells.setIfInBounds i (.pointer (some ⟨bz, 0, none⟩))))) hall 6 41 rfl
        have q42 : f.tmps.getD 42 undef = .pointer (some ⟨wb, 4 + i, none⟩) := finO (V := (VO6 wb i N nn base W3.heap.size (D.cells.setIfInBounds i (.pointer (some ⟨bz, 0, none⟩))))) hall 7 42 rfl
        obtain ⟨dz, ⟨oz, mz⟩, NZ⟩ := finN (V := (VO6 wb i N nn base W3.heap.size (D.cells.setIfInBounds i (.pointer (some ⟨bz, 0, none⟩))))) hall 8 rfl
        obtain rfl := frame_eq hsame [(35, .pointer (some ⟨wb, 0, none⟩)), (36, .int .i64 (i : Int)), (37, .pointer (some ⟨N, 3, none⟩)), (38, .int .u64 (nn : Int)), (39, (.pointer (some ⟨b39, 0, none⟩))), (40, .pointer (some ⟨wb, 0, none⟩)), (41, .pointer (some ⟨wb, 4, none⟩)), (42, .pointer (some ⟨wb, 4 + i, none⟩))] (by kernel_rfl) ⟨q35, q36, q37, q38, q39, q40, q41, q42, trivial⟩
        clear hall hsame q35 q36 q37 q38 q39 q40 q41 q42
        simp only [List.foldl, List.setIfInBounds_toArray, List.set_cons_succ, List.set_cons_zero]
        have kp4 := hsn.keepOne
        have hp := HW.out.put IL.out (w' := W4) (r' := bz) (d' := dz) (B' := nn) (E' := nn) (l' := []) (s' := .slice none 0 0) (t' := .slice none 0 0) ((KP3.out.trans kp4 (fun _ _ h => h)).mono (fun j _ e => .inl e)) (by rw [← D.cells_put IL.out]; exact mz)
          (NR3.out.1.kept kp4 (fun j hj e => by
            have e : j = wb := e
            rw [RaS_nil hj] at e
            have h1 := NR3.out.2
            have h2 := HW.out.wblt
            omega)) NZ.1 (StC.new nn) HNN.out (fun j hj => .inr (by rw [RaS_nil hj]; exact NR3.out.2)) (fun j hj => .inr (by rw [RmS_nil hj]; exact Nat.le_trans KP3.out.size NZ.2.2))
          (fun j h1 h2 => by
            rw [RaS_nil h1] at h2
            have h3 := RmS_nil h2
            have h4 := NR3.out.1.lt bz (.inl rfl)
            have h5 := NZ.2.2
            omega)
        have FIN : Bx (∃ D', CW base W4 wb D' ∧ Keep (D.F wb) w W4 ∧ ∀ k, D'.F wb k → D.F wb k ∨ w.heap.size ≤ k) := ⟨_, hp.1, (Keep.of_below KB.out (D.F wb)).trans (KP3.out.trans kp4 (fun _ _ h => h)) (fun k _ e => .inl e), fun k hk => (hp.2 k hk).imp id (fun h => Nat.le_trans KB.out.size h)⟩
        have c7 := hp.1.cR IL.out
        rw [show (D.put i bz dz nn nn [] (.slice none 0 0) (.slice none 0 0)).r i = bz from updC_at _ _ _] at c7
        have f2 : ¬ (4 : Int) ≤ (i : Int) := by have := IL.out; omega
        have f3 : (i : Int) < 4 := by have := IL.out; omega
        clear hsn kp4 hp mz oz NZ N39
        clear own
        go_wp2_with fail
        go_ret
        exact ⟨rfl, FIN.out⟩
  by_cases h2 : kd = 2
  · subst h2
    have BS2 := Bx.mk (Nat.le_trans BA.out KB.out.size); have B2 := Bx.mk (KB.out.mono BA.out)
    have d4 := er_cellAt X0.out 4 _ rfl; have d5 := er_cellAt X0.out 5 _ rfl; have d6 := er_cellAt X0.out 6 _ rfl
    have C1 := Bx.mk (twinW_any w2 ha hl hc hs (HH.out w2 B2.out) (by have := LM.out; have := HLN.out; omega))
    go_wp2_with fail
    refine C1.out.mono ?_
    rintro e w3 ⟨v, rfl, ⟨htw, rfl, hth⟩, hb⟩
    rw [← HLN.out] at htw hth ⊢
    obtain ⟨TB, hTB⟩ : ∃ TB, TB = w2.heap.size := ⟨_, rfl⟩
    rw [← hTB] at htw hth ⊢
    have x3 := (hb.block N (Array.getElem?_eq_some_iff.1 X0.out).1).trans X0.out
    have X3 := Bx.mk x3; have B3 := Bx.mk (B2.out.trans (hb.mono BS2.out)); have S3 := Bx.mk (Nat.le_trans BS2.out hb.size); have TW3 := Bx.mk htw; have TH3 := Bx.mk hth; have HTB := Bx.mk hTB; have KW3 := Bx.mk hb
    have TBL := Bx.mk (show TB < w3.heap.size by
      obtain ⟨-, B, e, hB, -⟩ := htw
      injection e with e1 _ _
      injection e1 with e1
      injection e1 with e1 _ _
      omega)
    clear C1 d4 d5 d6 htw hth hTB hb x3
    have d4 := er_cellAt X3.out 4 _ rfl; have d5 := er_cellAt X3.out 5 _ rfl; have d6 := er_cellAt X3.out 6 _ rfl
    rcases load_both9 A sb se hl hs HLN.out with ⟨ev, fc, fa, ⟨rfl, rfl, rfl⟩ | ⟨rfl, rfl, rfl⟩, l1, l2⟩ | ⟨l, hST, hE64, l1, l2⟩
    · clear HLT
      have C2 := Bx.mk (l1 w3 (some ⟨TB, 0, none⟩) (hl + 1) TW3.out.1 (HE.out w3 B3.out).er (HE.out w3 B3.out).tz (HE.out w3 B3.out).lt)
      have L2 := Bx.mk l2
      clear l1 l2
      go_wp2_with fail
      refine C2.out.mono ?_
      rintro e w4 ⟨rfl, hb⟩
      have x4 := (hb.block N (Array.getElem?_eq_some_iff.1 X3.out).1).trans X3.out
      have X4 := Bx.mk x4; have B4 := Bx.mk (B3.out.trans (hb.mono S3.out)); have S4 := Bx.mk (Nat.le_trans S3.out hb.size); have TW4 := Bx.mk (TW3.out.below hb); have TH4 := Bx.mk (there_kept TH3.out (hb.block TB TBL.out)); have KW4 := Bx.mk (KW3.out.trans (hb.mono KW3.out.size)); have TL4 := Bx.mk (Nat.lt_of_lt_of_le TBL.out hb.size)
      
      clear hb x4 C2 d4 d5 d6 
      have d4 := er_cellAt X4.out 4 _ rfl; have d5 := er_cellAt X4.out 5 _ rfl; have d6 := er_cellAt X4.out 6 _ rfl
      have C3 := Bx.mk (L2.out w4 ha hc (HH.out w4 B4.out))
      clear L2
      go_wp2_with fail
      refine C3.out.mono ?_
      rintro e w5 ⟨rfl, hb⟩
      clear C3 d4 d5 d6
      go_upto_region 12 with (fail)
      have n5 := er_al (Below.refl w5.heap.size w5) (.cells #[.int .i64 2, .int .i64 (-1)] 75)
      have y5 := heap_alloc_new w5 (.cells #[.int .i64 2, .int .i64 (-1)] 75)
      have hb5 := hb.trans (n5.mono hb.size)
      
      clear hb 
      change Code.wp _ _ _ _ (w5.alloc (.cells #[.int .i64 2, .int .i64 (-1)] 75))
      obtain ⟨F, hF⟩ : ∃ F, F = w5.heap.size := ⟨_, rfl⟩
      rw [← hF] at y5 ⊢
      clear n5 hF
      generalize w5.alloc (.cells #[.int .i64 2, .int .i64 (-1)] 75) = w6 at y5 hb5  ⊢
      have x6 := (hb5.block N (Array.getElem?_eq_some_iff.1 X4.out).1).trans X4.out
      have X6 := Bx.mk x6; have B6 := Bx.mk (B4.out.trans (hb5.mono S4.out)); have S6 := Bx.mk (Nat.le_trans S4.out hb5.size); have TW6 := Bx.mk (TW4.out.below hb5); have TH6 := Bx.mk (there_kept TH4.out (hb5.block TB TL4.out)); have KW6 := Bx.mk (KW4.out.trans (hb5.mono KW4.out.size)); have TL6 := Bx.mk (Nat.lt_of_lt_of_le TL4.out hb5.size)
      
      have YF := Bx.mk y5
      have g0 := er_cellAt y5 0 _ rfl; have g1 := er_cellAt y5 1 _ rfl
      have SM := Bx.mk (same_kd9 A 1 (by decide) (.inr ⟨rfl, rfl, rfl⟩) w6 (HE.out w6 B6.out).er)
      clear y5 x6 hb5 
      go_wp2_with fail
      refine SM.out.mono ?_
      rintro e w7 ⟨rfl, hb⟩
      have x7 := (hb.block N (Array.getElem?_eq_some_iff.1 X6.out).1).trans X6.out
      have y7 := (hb.block F (Array.getElem?_eq_some_iff.1 YF.out).1).trans YF.out
      have B7 := Bx.mk (B6.out.trans (hb.mono S6.out)); have S7 := Bx.mk (Nat.le_trans S6.out hb.size); have TW7 := Bx.mk (TW6.out.below hb); have TH7 := Bx.mk (there_kept TH6.out (hb.block TB TL6.out)); have KW7 := Bx.mk (KW6.out.trans (hb.mono KW6.out.size)); have TL7 := Bx.mk (Nat.lt_of_lt_of_le TL6.out hb.size)
      
      clear g0 g1
      have d6 := er_cellAt x7 6 _ rfl
      have g0 := er_cellAt y7 0 _ rfl; have g1 := er_cellAt y7 1 _ rfl
      have CLB := Bx.mk (leftW_any w7 _ hs ha hl hc TW7.out (HH.out w7 B7.out) (by have := LM.out; have := HLN.out; omega))
      clear hb x7 y7 SM
      go_wp2_with fail
      refine CLB.out.mono ?_
      rintro e w8 ⟨rfl, hb⟩
      have B8 := Bx.mk (B7.out.trans (hb.mono S7.out)); have TH8 := Bx.mk (there_kept TH7.out (hb.block TB TL7.out)); have KW8 := Bx.mk (KW7.out.trans (hb.mono KW7.out.size))
      
      clear hb d6 CLB g0 g1
      go_wp2_with fail
      go_loopw [12] (fun iv wr => ∃ t : Nat, t ≤ hl ∧ iv = .int .i64 (t : Int) ∧ wr.there TB 0 ((hl + 1) * 32) ∧ Keep (fun j => j = TB) w8 wr) (fun iv _ => hl - (intOf iv).toNat)
      case atStart => exact ⟨0, Nat.zero_le _, rfl, TH8.out, Keep.refl _ _⟩
      case round =>
        obtain ⟨t, ht, rfl, hth, hkp⟩ := hrel
        by_cases hlt : t < hl
        · have f4 : ¬ (hl : Int) ≤ (t : Int) := by omega
          have f5 : (t : Int) < (hl : Int) := by omega
          have TP := Bx.mk (there_part hth (o := t * 32) (m := (ocells m77).size) (by rw [show (ocells m77).size = 32 from rfl]; omega))
          have THn := Bx.mk (World.there_setCells hth TB (t * 32) (ocells m77).toList)
          have KPn := Bx.mk (hkp.trans (keep_setCells TB (ocells m77).toList (t * 32) wr) (fun _ _ h => h))
          have TLt := Bx.mk hlt
          clear hth hkp hlt ht
          go_wp2_with (first
            | (guard_target =~ wpList _ _ _ (⟨some 97, _, _, _, _, _⟩ :: _) _ _; refine wpList_build_c (by simp [Region.wanted]) 81 #[(0, .const (.int .u8 77))] rfl (ocells m77) (by simp only [List.map_toArray, List.map_cons, List.map_nil]; exact built_77) ?_)
            | (guard_target =~ wpList _ _ _ (⟨none, _, _, _, _, _⟩ :: _) _ _; refine wpList_store_mid rfl 81 (.tmp 98) (.tmp 97) rfl TB (t * 32) (ocells m77) rfl rfl TP.out (hszL (by decide)) (ocells_one _) ?_))
          go_roundw
          case rel => exact ⟨t + 1, TLt.out, (by rw [wrap_succB t (by have := TLt.out; have := LM.out; omega)]), THn.out, KPn.out⟩
          case measure => rw [wrap_succB t (by have := TLt.out; have := LM.out; omega)]; have := TLt.out; simp [intOf]; omega
        · have f4 : ¬ (t : Int) < (hl : Int) := by omega
          have KWr := Bx.mk (KW8.out.trans (hkp.below (B := w2.heap.size) KW8.out.size (fun j e => by have e : j = TB := e; have := HTB.out; omega)))
          have FIN := Bx.mk (And.intro (HW.out.below KWr.out) (Keep.of_below (KB.out.trans (KWr.out.mono KB.out.size)) (D.F wb)))
          clear hkp hth hlt ht
          go_wp2_with fail
          go_ret
          exact ⟨rfl, D, FIN.out.1, FIN.out.2, fun k hk => .inl hk⟩
    · clear HLT
      have C2 := Bx.mk (l1 w3 (some ⟨TB, 0, none⟩) (hl + 1) TW3.out.1 (HE.out w3 B3.out).er (HE.out w3 B3.out).tz (HE.out w3 B3.out).lt)
      have L2 := Bx.mk l2
      clear l1 l2
      go_wp2_with fail
      refine C2.out.mono ?_
      rintro e w4 ⟨rfl, hb⟩
      have x4 := (hb.block N (Array.getElem?_eq_some_iff.1 X3.out).1).trans X3.out
      have X4 := Bx.mk x4; have B4 := Bx.mk (B3.out.trans (hb.mono S3.out)); have S4 := Bx.mk (Nat.le_trans S3.out hb.size); have TW4 := Bx.mk (TW3.out.below hb); have TH4 := Bx.mk (there_kept TH3.out (hb.block TB TBL.out)); have KW4 := Bx.mk (KW3.out.trans (hb.mono KW3.out.size)); have TL4 := Bx.mk (Nat.lt_of_lt_of_le TBL.out hb.size)
      
      clear hb x4 C2 d4 d5 d6 
      have d4 := er_cellAt X4.out 4 _ rfl; have d5 := er_cellAt X4.out 5 _ rfl; have d6 := er_cellAt X4.out 6 _ rfl
      have C3 := Bx.mk (L2.out w4 ha hc (HH.out w4 B4.out))
      clear L2
      go_wp2_with fail
      refine C3.out.mono ?_
      rintro e w5 ⟨rfl, hb⟩
      clear C3 d4 d5 d6
      go_upto_region 12 with (fail)
      have n5 := er_al (Below.refl w5.heap.size w5) (.cells #[.int .i64 5, .int .i64 (-1)] 75)
      have y5 := heap_alloc_new w5 (.cells #[.int .i64 5, .int .i64 (-1)] 75)
      have hb5 := hb.trans (n5.mono hb.size)
      
      clear hb 
      change Code.wp _ _ _ _ (w5.alloc (.cells #[.int .i64 5, .int .i64 (-1)] 75))
      obtain ⟨F, hF⟩ : ∃ F, F = w5.heap.size := ⟨_, rfl⟩
      rw [← hF] at y5 ⊢
      clear n5 hF
      generalize w5.alloc (.cells #[.int .i64 5, .int .i64 (-1)] 75) = w6 at y5 hb5  ⊢
      have x6 := (hb5.block N (Array.getElem?_eq_some_iff.1 X4.out).1).trans X4.out
      have X6 := Bx.mk x6; have B6 := Bx.mk (B4.out.trans (hb5.mono S4.out)); have S6 := Bx.mk (Nat.le_trans S4.out hb5.size); have TW6 := Bx.mk (TW4.out.below hb5); have TH6 := Bx.mk (there_kept TH4.out (hb5.block TB TL4.out)); have KW6 := Bx.mk (KW4.out.trans (hb5.mono KW4.out.size)); have TL6 := Bx.mk (Nat.lt_of_lt_of_le TL4.out hb5.size)
      
      have YF := Bx.mk y5
      have g0 := er_cellAt y5 0 _ rfl; have g1 := er_cellAt y5 1 _ rfl
      have SM := Bx.mk (same_kd9 A 4 (by decide) (.inr ⟨rfl, rfl, rfl⟩) w6 (HE.out w6 B6.out).er)
      clear y5 x6 hb5 
      go_wp2_with fail
      refine SM.out.mono ?_
      rintro e w7 ⟨rfl, hb⟩
      have x7 := (hb.block N (Array.getElem?_eq_some_iff.1 X6.out).1).trans X6.out
      have y7 := (hb.block F (Array.getElem?_eq_some_iff.1 YF.out).1).trans YF.out
      have B7 := Bx.mk (B6.out.trans (hb.mono S6.out)); have S7 := Bx.mk (Nat.le_trans S6.out hb.size); have TW7 := Bx.mk (TW6.out.below hb); have TH7 := Bx.mk (there_kept TH6.out (hb.block TB TL6.out)); have KW7 := Bx.mk (KW6.out.trans (hb.mono KW6.out.size)); have TL7 := Bx.mk (Nat.lt_of_lt_of_le TL6.out hb.size)
      
      clear g0 g1
      have d6 := er_cellAt x7 6 _ rfl
      have g0 := er_cellAt y7 0 _ rfl; have g1 := er_cellAt y7 1 _ rfl
      have CLB := Bx.mk (leftW_any w7 _ hs ha hl hc TW7.out (HH.out w7 B7.out) (by have := LM.out; have := HLN.out; omega))
      clear hb x7 y7 SM
      go_wp2_with fail
      refine CLB.out.mono ?_
      rintro e w8 ⟨rfl, hb⟩
      have B8 := Bx.mk (B7.out.trans (hb.mono S7.out)); have TH8 := Bx.mk (there_kept TH7.out (hb.block TB TL7.out)); have KW8 := Bx.mk (KW7.out.trans (hb.mono KW7.out.size))
      
      clear hb d6 CLB g0 g1
      go_wp2_with fail
      go_loopw [12] (fun iv wr => ∃ t : Nat, t ≤ hl ∧ iv = .int .i64 (t : Int) ∧ wr.there TB 0 ((hl + 1) * 32) ∧ Keep (fun j => j = TB) w8 wr) (fun iv _ => hl - (intOf iv).toNat)
      case atStart => exact ⟨0, Nat.zero_le _, rfl, TH8.out, Keep.refl _ _⟩
      case round =>
        obtain ⟨t, ht, rfl, hth, hkp⟩ := hrel
        by_cases hlt : t < hl
        · have f4 : ¬ (hl : Int) ≤ (t : Int) := by omega
          have f5 : (t : Int) < (hl : Int) := by omega
          have TP := Bx.mk (there_part hth (o := t * 32) (m := (ocells m77).size) (by rw [show (ocells m77).size = 32 from rfl]; omega))
          have THn := Bx.mk (World.there_setCells hth TB (t * 32) (ocells m77).toList)
          have KPn := Bx.mk (hkp.trans (keep_setCells TB (ocells m77).toList (t * 32) wr) (fun _ _ h => h))
          have TLt := Bx.mk hlt
          clear hth hkp hlt ht
          go_wp2_with (first
            | (guard_target =~ wpList _ _ _ (⟨some 97, _, _, _, _, _⟩ :: _) _ _; refine wpList_build_c (by simp [Region.wanted]) 81 #[(0, .const (.int .u8 77))] rfl (ocells m77) (by simp only [List.map_toArray, List.map_cons, List.map_nil]; exact built_77) ?_)
            | (guard_target =~ wpList _ _ _ (⟨none, _, _, _, _, _⟩ :: _) _ _; refine wpList_store_mid rfl 81 (.tmp 98) (.tmp 97) rfl TB (t * 32) (ocells m77) rfl rfl TP.out (hszL (by decide)) (ocells_one _) ?_))
          go_roundw
          case rel => exact ⟨t + 1, TLt.out, (by rw [wrap_succB t (by have := TLt.out; have := LM.out; omega)]), THn.out, KPn.out⟩
          case measure => rw [wrap_succB t (by have := TLt.out; have := LM.out; omega)]; have := TLt.out; simp [intOf]; omega
        · have f4 : ¬ (t : Int) < (hl : Int) := by omega
          have KWr := Bx.mk (KW8.out.trans (hkp.below (B := w2.heap.size) KW8.out.size (fun j e => by have e : j = TB := e; have := HTB.out; omega)))
          have FIN := Bx.mk (And.intro (HW.out.below KWr.out) (Keep.of_below (KB.out.trans (KWr.out.mono KB.out.size)) (D.F wb)))
          clear hkp hth hlt ht
          go_wp2_with fail
          go_ret
          exact ⟨rfl, D, FIN.out.1, FIN.out.2, fun k hk => .inl hk⟩
    · clear HLT
      have C2 := Bx.mk (l1 w3 (some ⟨TB, 0, none⟩) (hl + 1) TW3.out.1 (HE.out w3 B3.out).tz (HE.out w3 B3.out).lt)
      have L2 := Bx.mk l2
      clear l1 l2
      go_wp2_with fail
      refine C2.out.mono ?_
      rintro e w4 ⟨b, s, rfl, hBu, hb⟩
      have x4 := (hb.block N (Array.getElem?_eq_some_iff.1 X3.out).1).trans X3.out
      have X4 := Bx.mk x4; have B4 := Bx.mk (B3.out.trans (hb.mono S3.out)); have S4 := Bx.mk (Nat.le_trans S3.out hb.size); have TW4 := Bx.mk (TW3.out.below hb); have TH4 := Bx.mk (there_kept TH3.out (hb.block TB TBL.out)); have KW4 := Bx.mk (KW3.out.trans (hb.mono KW3.out.size)); have TL4 := Bx.mk (Nat.lt_of_lt_of_le TBL.out hb.size)
      have BU4 := Bx.mk hBu; have BGE := Bx.mk (fun j hj => hBu.ge j hj); have STL := Bx.mk hST; have E64 := Bx.mk hE64; have Z34 := Bx.mk hb.size
      clear hb x4 C2 d4 d5 d6 hBu hST hE64
      have d4 := er_cellAt X4.out 4 _ rfl; have d5 := er_cellAt X4.out 5 _ rfl; have d6 := er_cellAt X4.out 6 _ rfl
      have C3 := Bx.mk (L2.out w4 ha hc (HH.out w4 B4.out))
      clear L2
      go_wp2_with fail
      refine C3.out.mono ?_
      rintro e w5 ⟨r, t, rfl, hRb, hb⟩
      clear C3 d4 d5 d6
      go_upto_region 12 with (fail)
      have n5 := er_al (Below.refl w5.heap.size w5) (.cells #[.int .i64 0, .int .i64 0] 75)
      have y5 := heap_alloc_new w5 (.cells #[.int .i64 0, .int .i64 0] 75)
      have hb5 := hb.trans (n5.mono hb.size)
      have m5 := hRb.below n5; have g5 := fun j hj => hRb.ge j hj; have u5 := BU4.out.below hb5; have bl5 := fun j hj => BU4.out.lt j hj
      clear hb hRb
      change Code.wp _ _ _ _ (w5.alloc (.cells #[.int .i64 0, .int .i64 0] 75))
      obtain ⟨F, hF⟩ : ∃ F, F = w5.heap.size := ⟨_, rfl⟩
      rw [← hF] at y5 ⊢
      clear n5 hF
      generalize w5.alloc (.cells #[.int .i64 0, .int .i64 0] 75) = w6 at y5 hb5 m5 u5 ⊢
      have x6 := (hb5.block N (Array.getElem?_eq_some_iff.1 X4.out).1).trans X4.out
      have X6 := Bx.mk x6; have B6 := Bx.mk (B4.out.trans (hb5.mono S4.out)); have S6 := Bx.mk (Nat.le_trans S4.out hb5.size); have TW6 := Bx.mk (TW4.out.below hb5); have TH6 := Bx.mk (there_kept TH4.out (hb5.block TB TL4.out)); have KW6 := Bx.mk (KW4.out.trans (hb5.mono KW4.out.size)); have TL6 := Bx.mk (Nat.lt_of_lt_of_le TL4.out hb5.size)
      have M6 := Bx.mk m5; have G5 := Bx.mk g5; have U6 := Bx.mk u5; have BL := Bx.mk bl5
      have YF := Bx.mk y5
      have g0 := er_cellAt y5 0 _ rfl; have g1 := er_cellAt y5 1 _ rfl
      have SM := Bx.mk (same_kd9 A 1 (by decide) (.inl ⟨rfl, rfl, rfl⟩) w6 (HE.out w6 B6.out).er)
      clear y5 x6 hb5 m5 g5 u5 bl5
      go_wp2_with fail
      refine SM.out.mono ?_
      rintro e w7 ⟨rfl, hb⟩
      have x7 := (hb.block N (Array.getElem?_eq_some_iff.1 X6.out).1).trans X6.out
      have y7 := (hb.block F (Array.getElem?_eq_some_iff.1 YF.out).1).trans YF.out
      have B7 := Bx.mk (B6.out.trans (hb.mono S6.out)); have S7 := Bx.mk (Nat.le_trans S6.out hb.size); have TW7 := Bx.mk (TW6.out.below hb); have TH7 := Bx.mk (there_kept TH6.out (hb.block TB TL6.out)); have KW7 := Bx.mk (KW6.out.trans (hb.mono KW6.out.size)); have TL7 := Bx.mk (Nat.lt_of_lt_of_le TL6.out hb.size)
      have M7 := Bx.mk (M6.out.below hb); have U7 := Bx.mk (U6.out.below hb)
      clear g0 g1
      have d6 := er_cellAt x7 6 _ rfl
      have g0 := er_cellAt y7 0 _ rfl; have g1 := er_cellAt y7 1 _ rfl
      have CLB := Bx.mk (leftW_any w7 _ hs ha hl hc TW7.out (HH.out w7 B7.out) (by have := LM.out; have := HLN.out; omega))
      clear hb x7 y7 SM
      go_wp2_with fail
      refine CLB.out.mono ?_
      rintro e w8 ⟨rfl, hb⟩
      have B8 := Bx.mk (B7.out.trans (hb.mono S7.out)); have TH8 := Bx.mk (there_kept TH7.out (hb.block TB TL7.out)); have KW8 := Bx.mk (KW7.out.trans (hb.mono KW7.out.size))
      have M8 := Bx.mk (M7.out.below hb); have U8 := Bx.mk (U7.out.below hb)
      clear hb d6 CLB g0 g1
      go_wp2_with fail
      go_loopw [12] (fun iv wr => ∃ t : Nat, t ≤ hl ∧ iv = .int .i64 (t : Int) ∧ wr.there TB 0 ((hl + 1) * 32) ∧ Keep (fun j => j = TB) w8 wr) (fun iv _ => hl - (intOf iv).toNat)
      case atStart => exact ⟨0, Nat.zero_le _, rfl, TH8.out, Keep.refl _ _⟩
      case round =>
        obtain ⟨t, ht, rfl, hth, hkp⟩ := hrel
        by_cases hlt : t < hl
        · have f4 : ¬ (hl : Int) ≤ (t : Int) := by omega
          have f5 : (t : Int) < (hl : Int) := by omega
          have TP := Bx.mk (there_part hth (o := t * 32) (m := (ocells m77).size) (by rw [show (ocells m77).size = 32 from rfl]; omega))
          have THn := Bx.mk (World.there_setCells hth TB (t * 32) (ocells m77).toList)
          have KPn := Bx.mk (hkp.trans (keep_setCells TB (ocells m77).toList (t * 32) wr) (fun _ _ h => h))
          have TLt := Bx.mk hlt
          clear hth hkp hlt ht
          go_wp2_with (first
            | (guard_target =~ wpList _ _ _ (⟨some 97, _, _, _, _, _⟩ :: _) _ _; refine wpList_build_c (by simp [Region.wanted]) 81 #[(0, .const (.int .u8 77))] rfl (ocells m77) (by simp only [List.map_toArray, List.map_cons, List.map_nil]; exact built_77) ?_)
            | (guard_target =~ wpList _ _ _ (⟨none, _, _, _, _, _⟩ :: _) _ _; refine wpList_store_mid rfl 81 (.tmp 98) (.tmp 97) rfl TB (t * 32) (ocells m77) rfl rfl TP.out (hszL (by decide)) (ocells_one _) ?_))
          go_roundw
          case rel => exact ⟨t + 1, TLt.out, (by rw [wrap_succB t (by have := TLt.out; have := LM.out; omega)]), THn.out, KPn.out⟩
          case measure => rw [wrap_succB t (by have := TLt.out; have := LM.out; omega)]; have := TLt.out; simp [intOf]; omega
        · have f4 : ¬ (t : Int) < (hl : Int) := by omega
          have KWr := Bx.mk (KW8.out.trans (hkp.below (B := w2.heap.size) KW8.out.size (fun j e => by have e : j = TB := e; have := HTB.out; omega)))
          have hTn : ∀ j, (w3.heap.size ≤ j) → ¬ j = TB := fun j h e => by have := TBL.out; omega
          have hBu := U8.out.kept hkp (fun j hj => hTn j (BGE.out j hj))
          have hRb := M8.out.kept hkp (fun j hj => hTn j (Nat.le_trans Z34.out (G5.out j hj)))
          obtain ⟨D', q1, q2, q3, q4⟩ := HW.out.store KWr.out IL.out (hBu.mono S3.out) (hRb.mono S4.out) STL.out E64.out (fun j hj => Nat.le_trans KW3.out.size (BGE.out j hj)) (fun j hj => Nat.le_trans (Nat.le_trans KW3.out.size Z34.out) (G5.out j hj)) (fun j h1 h2 => by have q1 := BL.out j h1; have q2 := G5.out j h2; omega)
          have FIN := Bx.mk (And.intro q1 (And.intro ((Keep.of_below KB.out (D.F wb)).trans q2 (fun _ _ h => h)) (fun k hk => (q3 k hk).imp id (fun h => Nat.le_trans KB.out.size h) : ∀ k, D'.F wb k → D.F wb k ∨ w.heap.size ≤ k)))
          have HDw := HW.out.below KWr.out
          have f2 : ¬ (4 : Int) ≤ (i : Int) := by have := IL.out; omega
          have f3 : (i : Int) < 4 := by have := IL.out; omega
          have cS := HDw.cR IL.out
          have fS := frozenC HDw.hb i
          have cT := HDw.cM IL.out
          have fT := frozenC HDw.hb (4 + i)
          have cT2 : (wr.setCell ⟨wb, i, none⟩ (.pointer (some ⟨b, 0, none⟩))).cell? ⟨wb, 4 + i, none⟩ = some (.pointer (some ⟨D.d i, 0, none⟩)) := by rw [← cT]; exact cell_setCell_ne wr wb i (4 + i) _ (by omega)
          have fT2 : (wr.setCell ⟨wb, i, none⟩ (.pointer (some ⟨b, 0, none⟩))).frozen? ⟨wb, 4 + i, none⟩ = false := by rw [← fT]; exact frozen_setCell_ne wr wb i (4 + i) _
          clear HDw cT fT hBu hRb hTn q1 q2 q3 q4 hkp hth hlt ht
          go_wp2_with fail
          go_ret
          exact ⟨rfl, D', FIN.out⟩
  by_cases h3 : kd = 3
  · subst h3
    obtain ⟨E2, l2, ev, fc, fa, hST, hE3, hKD, hPC, hRC⟩ := app_both9 A base (D.r i) (D.d i) (D.B i) (D.E i) (D.l i) (D.sv i) (D.dv i) (HW.out.st i IL.out) (head9 hs) (by cases hs with | nil => rfl | cons x t => exact (HH.out w2 (KB.out.mono BA.out)).1 x (by simp))
    have hE2 := hE3 (HW.out.e64 i IL.out)
    rw [show hv (head9 hs) = .agg (ocells (head9 hs)) from rfl] at hPC
    have CF := Bx.mk (fun u (hu : Below base w2 u) => first9_any u ha hl hc hs (HH.out u ((KB.out.mono BA.out).trans hu)))
    clear hE3
    have KQ' : Nat := 3
    have OB := Bx.mk (show ∀ k, k < base → own9 D i 9 19 k = none from fun k hk => HW.out.own9_out IL.out (.inl (fun e => by have := HW.out.ge k e; omega)))
    have OWB := Bx.mk (show own9 D i 9 19 wb = none from HW.out.own9_out IL.out (.inr rfl))
    have NLT := Bx.mk (Array.getElem?_eq_some_iff.1 X0.out).1
    have NON := Bx.mk (show own9 D i 9 19 N = none from HW.out.own9_out IL.out (.inl (fun e => by have h1 := HLT.out N e; have h2 := HN.out; omega)))
    have OTOP := Bx.mk (show ∀ k, w2.heap.size ≤ k → own9 D i 9 19 k = none from fun k hk => HW.out.own9_out IL.out (.inl (fun e => by have := HW.out.lt k e; omega)))
    have OMK := Bx.mk (show ∀ j i', K2.VO23mk j = some i' → ∀ k, own9 D i 9 19 k ≠ some j from fun j i' hj k e => by rcases own9_some e with ⟨rfl, -⟩ | ⟨rfl, -⟩ <;> cases hj)
    have BS2 := Bx.mk (Nat.le_trans BA.out KB.out.size); have B2 := Bx.mk (KB.out.mono BA.out)
    have IL1 := Bx.mk (show ¬ (4 : Int) ≤ (i : Int) by have := IL.out; omega); have IL2 := Bx.mk (show (i : Int) < 4 by have := IL.out; omega)
    have KL1 := Bx.mk (show ¬ (4 : Int) ≤ (k : Int) by have := KL.out; omega); have KL2 := Bx.mk (show (k : Int) < 4 by have := KL.out; omega)
    have EV := Bx.mk (fun u (hu : Below base w2 u) => HE.out u (B2.out.trans hu))
    have GR := Bx.mk (D.getR IL.out); have GM := Bx.mk (D.getM IL.out); have GRk := Bx.mk (D.getR KL.out); have GMk := Bx.mk (D.getM KL.out)
    have ST := Bx.mk hST; have E2L := Bx.mk hE2; have SM := Bx.mk (same_kd9 A 3 (by decide) hKD); have PC := Bx.mk hPC; have RC := Bx.mk hRC
    have HIJ := Bx.mk (fun j (hR : D.R i j) (hM : D.M i j) => HW.out.rmx i i IL.out IL.out j hR hM)
    clear hST hE2 hKD hPC hRC
    obtain ⟨Z, hZ⟩ : ∃ Z, Z = w2.heap.size := ⟨_, rfl⟩
    have ZW := Bx.mk (Nat.le_of_eq hZ); have HZ := Bx.mk hZ
    clear hZ KQ'
    go_upto_region 23 with (fail)
    refine K2.wp_region_ownL (n := 226) K2.VO23mk (own9 D i 9 19) (K2.VO23 D wb i k N base E2 Z l2 ev fc fa ha hl hc hs) (by kernel_rfl) (by kernel_rfl) rfl (OTOP.out) (OMK.out) ?_ ?_ ?_
    · exact fun oi oj v own w own' w' hij hnd h r1 => K2.VO23_mono D wb i k N base E2 Z l2 ev fc fa ha hl hc hs oi oj v own w own' w' hij (by rintro rfl rfl; exact Bool.noConfusion (hnd.symm.trans (show depB _ 9 8 = true by kernel_rfl))) (by rintro rfl rfl; exact Bool.noConfusion (hnd.symm.trans (show depB _ 19 18 = true by kernel_rfl))) h r1
    · intro oi o hi f u own hsame hsn hfr hlate hkeep8 hdep
      have hkeep := hkeep8 _ (.inl rfl)
      have hb6 := hsn.below (B := base) OB.out BS2.out
      have hwb := (hsn.keep wb HW.out.wblt OWB.out).trans HW.out.hb
      have hN := (hsn.keep N NLT.out NON.out).trans X0.out
      match oi, hi with
      | 0, hi =>
        cases (show some _ = some o from hi)
        have e0 : f.tmps.getD 0 undef = .pointer (some ⟨wb, 0, none⟩) := hsame.slot 0 (fun i o h => invB2_not 0 (by kernel_rfl) h)
        clear hdep hsame hi hlate hfr hkeep
        exact .inl ⟨wanted_none rfl, K2.showsO_move hsn rfl _ rfl e0⟩
      | 1, hi =>
        cases (show some _ = some o from hi)
        have e5 : f.tmps.getD 5 undef = .int .i64 (i : Int) := hsame.slot 5 (fun i o h => invB2_not 5 (by kernel_rfl) h)
        clear hdep hsame hi hlate hfr hkeep
        exact .inl ⟨wanted_none rfl, K2.showsO_move hsn rfl _ rfl e5⟩
      | 2, hi =>
        cases (show some _ = some o from hi)
        have e115 : (f.tmps.getD 115 undef) = .pointer (some ⟨wb, 0, none⟩) := depO (V := (K2.VO23 D wb i k N base E2 Z l2 ev fc fa ha hl hc hs)) hdep 0 115 (by kernel_rfl) (by kernel_rfl)
        clear hdep hsame hi hlate hfr hkeep
        exact .inl ⟨wanted_none rfl, K2.showsO_pure hsn rfl (.pointer (some ⟨wb, 0, none⟩)) (by simp only [execOp, Act.eval]; go_simp) rfl⟩
      | 3, hi =>
        cases (show some _ = some o from hi)
        have e117 : (f.tmps.getD 117 undef) = .pointer (some ⟨wb, 0, none⟩) := depO (V := (K2.VO23 D wb i k N base E2 Z l2 ev fc fa ha hl hc hs)) hdep 2 117 (by kernel_rfl) (by kernel_rfl)
        clear hdep hsame hi hlate hfr hkeep
        exact .inl ⟨wanted_none rfl, K2.showsO_pure hsn rfl (.pointer (some ⟨wb, 0, none⟩)) (by simp only [execOp, Act.eval]; go_simp) rfl⟩
      | 4, hi =>
        cases (show some _ = some o from hi)
        have e116 : (f.tmps.getD 116 undef) = .int .i64 (i : Int) := depO (V := (K2.VO23 D wb i k N base E2 Z l2 ev fc fa ha hl hc hs)) hdep 1 116 (by kernel_rfl) (by kernel_rfl)
        have e118 : (f.tmps.getD 118 undef) = .pointer (some ⟨wb, 0, none⟩) := depO (V := (K2.VO23 D wb i k N base E2 Z l2 ev fc fa ha hl hc hs)) hdep 3 118 (by kernel_rfl) (by kernel_rfl)
        clear hdep hsame hi hlate hfr hkeep
        have f2 := IL1.out; have f3 := IL2.out
        exact .inl ⟨wanted_none rfl, K2.showsO_pure hsn rfl (.pointer (some ⟨wb, i, none⟩)) (by simp only [execOp, Act.eval]; go_simp) rfl⟩
      | 5, hi =>
        cases (show some _ = some o from hi)
        have e119 : (f.tmps.getD 119 undef) = .pointer (some ⟨wb, i, none⟩) := depO (V := (K2.VO23 D wb i k N base E2 Z l2 ev fc fa ha hl hc hs)) hdep 4 119 (by kernel_rfl) (by kernel_rfl)
        clear hdep hsame hi hlate hfr hkeep
        have c := er_cellAt hwb (i) _ GR.out
        exact .inl ⟨wanted_none rfl, K2.showsO_pure hsn rfl (.pointer (some ⟨(D.r i), 0, none⟩)) (by simp only [execOp, Act.eval]; go_simp) rfl⟩
      | 6, hi =>
        cases (show some _ = some o from hi)
        have e3 : f.tmps.getD 3 undef = .pointer (some ⟨N, 0, none⟩) := hsame.slot 3 (fun i o h => invB2_not 3 (by kernel_rfl) h)
        clear hdep hsame hi hlate hfr hkeep
        exact .inl ⟨wanted_none rfl, K2.showsO_pure hsn rfl (.pointer (some ⟨N, 6, none⟩)) (by simp only [execOp, Act.eval]; go_simp) rfl⟩
      | 7, hi =>
        cases (show some _ = some o from hi)
        have e121 : (f.tmps.getD 121 undef) = .pointer (some ⟨N, 6, none⟩) := depO (V := (K2.VO23 D wb i k N base E2 Z l2 ev fc fa ha hl hc hs)) hdep 6 121 (by kernel_rfl) (by kernel_rfl)
        clear hdep hsame hi hlate hfr hkeep
        have c := er_cellAt hN 6 _ rfl
        exact .inl ⟨wanted_none rfl, K2.showsO_pure hsn rfl (.slice ha hl hc) (by simp only [execOp, Act.eval]; go_simp) rfl⟩
      | 8, hi =>
        cases (show some _ = some o from hi)
        have e122 : (f.tmps.getD 122 undef) = .slice ha hl hc := depO (V := (K2.VO23 D wb i k N base E2 Z l2 ev fc fa ha hl hc hs)) hdep 7 122 (by kernel_rfl) (by kernel_rfl)
        clear hdep hsame hi hlate hfr hkeep
        have c := CF.out u hb6
        exact .inl ⟨wanted_none rfl, K2.showsO_call1 hsn rfl 18 #[.slice ha hl hc] (by simp only [execOp, Act.eval]; go_simp) (c) (fun _ => rfl)⟩
      | 9, hi =>
        cases (show some _ = some o from hi)
        have e120 : (f.tmps.getD 120 undef) = .pointer (some ⟨(D.r i), 0, none⟩) := depO (V := (K2.VO23 D wb i k N base E2 Z l2 ev fc fa ha hl hc hs)) hdep 5 120 (by kernel_rfl) (by kernel_rfl)
        have e123 : (f.tmps.getD 123 undef) = .agg (ocells (head9 hs)) := depO (V := (K2.VO23 D wb i k N base E2 Z l2 ev fc fa ha hl hc hs)) hdep 8 123 (by kernel_rfl) (by kernel_rfl)
        clear hdep hsame hi hlate hfr hkeep
        exact .inl ⟨wanted_none rfl, K2.showsO_appC hsn rfl (new := 8) rfl rfl 17 #[.pointer (some ⟨(D.r i), 0, none⟩), .agg (ocells (head9 hs))] (by simp only [execOp, Act.eval]; go_simp) (PC.out u ((HW.out.ra i IL.out).kept (HW.out.keepR9 IL.out hsn (hkeep8 9 (.inl rfl))) (fun j hj e => e ⟨i, IL.out, hj⟩)) (Nat.le_trans BS2.out hsn.size) (EV.out u hb6).er (fun u' hu' => (EV.out u' (hb6.trans hu')).ts)) (fun k h => (hsn.owns k ((HW.out.ra i IL.out).lt k h)).trans (own9_R h)) (Nat.le_trans ZW.out hsn.size) (fun own' w' h => ⟨rfl, h⟩)⟩
      | 10, hi =>
        cases (show some _ = some o from hi)
        have e0 : f.tmps.getD 0 undef = .pointer (some ⟨wb, 0, none⟩) := hsame.slot 0 (fun i o h => invB2_not 0 (by kernel_rfl) h)
        clear hdep hsame hi hlate hfr hkeep
        exact .inl ⟨wanted_none rfl, K2.showsO_move hsn rfl _ rfl e0⟩
      | 11, hi =>
        cases (show some _ = some o from hi)
        have e5 : f.tmps.getD 5 undef = .int .i64 (i : Int) := hsame.slot 5 (fun i o h => invB2_not 5 (by kernel_rfl) h)
        clear hdep hsame hi hlate hfr hkeep
        exact .inl ⟨wanted_none rfl, K2.showsO_move hsn rfl _ rfl e5⟩
      | 12, hi =>
        cases (show some _ = some o from hi)
        have e125 : (f.tmps.getD 125 undef) = .pointer (some ⟨wb, 0, none⟩) := depO (V := (K2.VO23 D wb i k N base E2 Z l2 ev fc fa ha hl hc hs)) hdep 10 125 (by kernel_rfl) (by kernel_rfl)
        clear hdep hsame hi hlate hfr hkeep
        exact .inl ⟨wanted_none rfl, K2.showsO_pure hsn rfl (.pointer (some ⟨wb, 0, none⟩)) (by simp only [execOp, Act.eval]; go_simp) rfl⟩
      | 13, hi =>
        cases (show some _ = some o from hi)
        have e127 : (f.tmps.getD 127 undef) = .pointer (some ⟨wb, 0, none⟩) := depO (V := (K2.VO23 D wb i k N base E2 Z l2 ev fc fa ha hl hc hs)) hdep 12 127 (by kernel_rfl) (by kernel_rfl)
        clear hdep hsame hi hlate hfr hkeep
        exact .inl ⟨wanted_none rfl, K2.showsO_pure hsn rfl (.pointer (some ⟨wb, 4, none⟩)) (by simp only [execOp, Act.eval]; go_simp) rfl⟩
      | 14, hi =>
        cases (show some _ = some o from hi)
        have e126 : (f.tmps.getD 126 undef) = .int .i64 (i : Int) := depO (V := (K2.VO23 D wb i k N base E2 Z l2 ev fc fa ha hl hc hs)) hdep 11 126 (by kernel_rfl) (by kernel_rfl)
        have e128 : (f.tmps.getD 128 undef) = .pointer (some ⟨wb, 4, none⟩) := depO (V := (K2.VO23 D wb i k N base E2 Z l2 ev fc fa ha hl hc hs)) hdep 13 128 (by kernel_rfl) (by kernel_rfl)
        clear hdep hsame hi hlate hfr hkeep
        have f2 := IL1.out; have f3 := IL2.out
        exact .inl ⟨wanted_none rfl, K2.showsO_pure hsn rfl (.pointer (some ⟨wb, 4 + i, none⟩)) (by simp only [execOp, Act.eval]; go_simp) rfl⟩
      | 15, hi =>
        cases (show some _ = some o from hi)
        have e129 : (f.tmps.getD 129 undef) = .pointer (some ⟨wb, 4 + i, none⟩) := depO (V := (K2.VO23 D wb i k N base E2 Z l2 ev fc fa ha hl hc hs)) hdep 14 129 (by kernel_rfl) (by kernel_rfl)
        clear hdep hsame hi hlate hfr hkeep
        have c := er_cellAt hwb (4 + i) _ GM.out
        exact .inl ⟨wanted_none rfl, K2.showsO_pure hsn rfl (.pointer (some ⟨(D.d i), 0, none⟩)) (by simp only [execOp, Act.eval]; go_simp) rfl⟩
      | 16, hi =>
        cases (show some _ = some o from hi)
        have e3 : f.tmps.getD 3 undef = .pointer (some ⟨N, 0, none⟩) := hsame.slot 3 (fun i o h => invB2_not 3 (by kernel_rfl) h)
        clear hdep hsame hi hlate hfr hkeep
        exact .inl ⟨wanted_none rfl, K2.showsO_pure hsn rfl (.pointer (some ⟨N, 6, none⟩)) (by simp only [execOp, Act.eval]; go_simp) rfl⟩
      | 17, hi =>
        cases (show some _ = some o from hi)
        have e131 : (f.tmps.getD 131 undef) = .pointer (some ⟨N, 6, none⟩) := depO (V := (K2.VO23 D wb i k N base E2 Z l2 ev fc fa ha hl hc hs)) hdep 16 131 (by kernel_rfl) (by kernel_rfl)
        clear hdep hsame hi hlate hfr hkeep
        have c := er_cellAt hN 6 _ rfl
        exact .inl ⟨wanted_none rfl, K2.showsO_pure hsn rfl (.slice ha hl hc) (by simp only [execOp, Act.eval]; go_simp) rfl⟩
      | 18, hi =>
        cases (show some _ = some o from hi)
        have e132 : (f.tmps.getD 132 undef) = .slice ha hl hc := depO (V := (K2.VO23 D wb i k N base E2 Z l2 ev fc fa ha hl hc hs)) hdep 17 132 (by kernel_rfl) (by kernel_rfl)
        clear hdep hsame hi hlate hfr hkeep
        have c := CF.out u hb6
        exact .inl ⟨wanted_none rfl, K2.showsO_call1 hsn rfl 18 #[.slice ha hl hc] (by simp only [execOp, Act.eval]; go_simp) (c) (fun _ => rfl)⟩
      | 19, hi =>
        cases (show some _ = some o from hi)
        have e130 : (f.tmps.getD 130 undef) = .pointer (some ⟨(D.d i), 0, none⟩) := depO (V := (K2.VO23 D wb i k N base E2 Z l2 ev fc fa ha hl hc hs)) hdep 15 130 (by kernel_rfl) (by kernel_rfl)
        have e133 : (f.tmps.getD 133 undef) = .agg (ocells (head9 hs)) := depO (V := (K2.VO23 D wb i k N base E2 Z l2 ev fc fa ha hl hc hs)) hdep 18 133 (by kernel_rfl) (by kernel_rfl)
        clear hdep hsame hi hlate hfr hkeep
        exact .inl ⟨wanted_none rfl, K2.showsO_rappC hsn rfl (new := 18) rfl rfl 19 #[.pointer (some ⟨(D.d i), 0, none⟩), .agg (ocells (head9 hs))] (by simp only [execOp, Act.eval]; go_simp) (RC.out u ((HW.out.rm i IL.out).kept (HW.out.keepM9 IL.out hsn (hkeep8 19 (.inl rfl))) (fun j hj e => e ⟨i, IL.out, hj⟩)) (Nat.le_trans BS2.out hsn.size)) (fun k h => (hsn.owns k ((HW.out.rm i IL.out).lt k h)).trans (own9_M h (fun e => HIJ.out k e h))) (Nat.le_trans ZW.out hsn.size) (fun own' w' h => ⟨rfl, h⟩)⟩
      | 20, hi =>
        cases (show some _ = some o from hi)
        have e124 : (f.tmps.getD 124 undef) = ev ∧ K2.RaW own u 9 8 base (D.r i) (D.B i) E2 l2 (D.sv i) Z := depO (V := (K2.VO23 D wb i k N base E2 Z l2 ev fc fa ha hl hc hs)) hdep 9 124 (by kernel_rfl) (by kernel_rfl)
        have e134 : (f.tmps.getD 134 undef) = .agg #[.int .i64 fc, .int .i64 fa] ∧ K2.RmW own u 19 18 base (D.d i) (D.B i) E2 l2 (D.dv i) Z := depO (V := (K2.VO23 D wb i k N base E2 Z l2 ev fc fa ha hl hc hs)) hdep 19 134 (by kernel_rfl) (by kernel_rfl)
        clear hdep hsame hi hlate hfr hkeep
        obtain ⟨e124, -⟩ := e124
        obtain ⟨e134, -⟩ := e134
        have c := SM.out u (EV.out u hb6).er
        exact .inl ⟨wanted_none rfl, K2.showsO_call1 hsn rfl 15 #[ev, .agg #[.int .i64 fc, .int .i64 fa]] (by simp only [execOp, Act.eval]; go_simp) (c) (fun _ => rfl)⟩
      | 21, hi =>
        cases (show some _ = some o from hi)
        have e135 : (f.tmps.getD 135 undef) = .bool true := depO (V := (K2.VO23 D wb i k N base E2 Z l2 ev fc fa ha hl hc hs)) hdep 20 135 (by kernel_rfl) (by kernel_rfl)
        clear hdep hsame hi hlate hfr hkeep
        exact .inl ⟨wanted_none rfl, K2.showsO_assign hsn rfl _ rfl e135⟩
      | n + 22, hi => exact absurd hi (by simp)
    · intro f W3 own hsame hsn hall
      have q115 : f.tmps.getD 115 undef = .pointer (some ⟨wb, 0, none⟩) := finO (V := (K2.VO23 D wb i k N base E2 Z l2 ev fc fa ha hl hc hs)) hall 0 115 rfl
      have q116 : f.tmps.getD 116 undef = .int .i64 (i : Int) := finO (V := (K2.VO23 D wb i k N base E2 Z l2 ev fc fa ha hl hc hs)) hall 1 116 rfl
      have q117 : f.tmps.getD 117 undef = .pointer (some ⟨wb, 0, none⟩) := finO (V := (K2.VO23 D wb i k N base E2 Z l2 ev fc fa ha hl hc hs)) hall 2 117 rfl
      have q118 : f.tmps.getD 118 undef = .pointer (some ⟨wb, 0, none⟩) := finO (V := (K2.VO23 D wb i k N base E2 Z l2 ev fc fa ha hl hc hs)) hall 3 118 rfl
      have q119 : f.tmps.getD 119 undef = .pointer (some ⟨wb, i, none⟩) := finO (V := (K2.VO23 D wb i k N base E2 Z l2 ev fc fa ha hl hc hs)) hall 4 119 rfl
      have q120 : f.tmps.getD 120 undef = .pointer (some ⟨(D.r i), 0, none⟩) := finO (V := (K2.VO23 D wb i k N base E2 Z l2 ev fc fa ha hl hc hs)) hall 5 120 rfl
      have q121 : f.tmps.getD 121 undef = .pointer (some ⟨N, 6, none⟩) := finO (V := (K2.VO23 D wb i k N base E2 Z l2 ev fc fa ha hl hc hs)) hall 6 121 rfl
      have q122 : f.tmps.getD 122 undef = .slice ha hl hc := finO (V := (K2.VO23 D wb i k N base E2 Z l2 ev fc fa ha hl hc hs)) hall 7 122 rfl
      have q123 : f.tmps.getD 123 undef = .agg (ocells (head9 hs)) := finO (V := (K2.VO23 D wb i k N base E2 Z l2 ev fc fa ha hl hc hs)) hall 8 123 rfl
      obtain ⟨q124, RW⟩ := finO (V := (K2.VO23 D wb i k N base E2 Z l2 ev fc fa ha hl hc hs)) hall 9 124 rfl
      have q125 : f.tmps.getD 125 undef = .pointer (some ⟨wb, 0, none⟩) := finO (V := (K2.VO23 D wb i k N base E2 Z l2 ev fc fa ha hl hc hs)) hall 10 125 rfl
      have q126 : f.tmps.getD 126 undef = .int .i64 (i : Int) := finO (V := (K2.VO23 D wb i k N base E2 Z l2 ev fc fa ha hl hc hs)) hall 11 126 rfl
      have q127 : f.tmps.getD 127 undef = .pointer (some ⟨wb, 0, none⟩) := finO (V := (K2.VO23 D wb i k N base E2 Z l2 ev fc fa ha hl hc hs)) hall 12 127 rfl
      have q128 : f.tmps.getD 128 undef = .pointer (some ⟨wb, 4, none⟩) := finO (V := (K2.VO23 D wb i k N base E2 Z l2 ev fc fa ha hl hc hs)) hall 13 128 rfl
      have q129 : f.tmps.getD 129 undef = .pointer (some ⟨wb, 4 + i, none⟩) := finO (V := (K2.VO23 D wb i k N base E2 Z l2 ev fc fa ha hl hc hs)) hall 14 129 rfl
      have q130 : f.tmps.getD 130 undef = .pointer (some ⟨(D.d i), 0, none⟩) := finO (V := (K2.VO23 D wb i k N base E2 Z l2 ev fc fa ha hl hc hs)) hall 15 130 rfl
      have q131 : f.tmps.getD 131 undef = .pointer (some ⟨N, 6, none⟩) := finO (V := (K2.VO23 D wb i k N base E2 Z l2 ev fc fa ha hl hc hs)) hall 16 131 rfl
      have q132 : f.tmps.getD 132 undef = .slice ha hl hc := finO (V := (K2.VO23 D wb i k N base E2 Z l2 ev fc fa ha hl hc hs)) hall 17 132 rfl
      have q133 : f.tmps.getD 133 undef = .agg (ocells (head9 hs)) := finO (V := (K2.VO23 D wb i k N base E2 Z l2 ev fc fa ha hl hc hs)) hall 18 133 rfl
      obtain ⟨q134, MW⟩ := finO (V := (K2.VO23 D wb i k N base E2 Z l2 ev fc fa ha hl hc hs)) hall 19 134 rfl
      have q135 : f.tmps.getD 135 undef = .bool true := finO (V := (K2.VO23 D wb i k N base E2 Z l2 ev fc fa ha hl hc hs)) hall 20 135 rfl
      have q4 : f.tmps.getD 4 undef = .bool true := finO (V := (K2.VO23 D wb i k N base E2 Z l2 ev fc fa ha hl hc hs)) hall 21 4 rfl
      obtain rfl := frame_eq hsame [(115, .pointer (some ⟨wb, 0, none⟩)), (116, .int .i64 (i : Int)), (117, .pointer (some ⟨wb, 0, none⟩)), (118, .pointer (some ⟨wb, 0, none⟩)), (119, .pointer (some ⟨wb, i, none⟩)), (120, .pointer (some ⟨(D.r i), 0, none⟩)), (121, .pointer (some ⟨N, 6, none⟩)), (122, .slice ha hl hc), (123, .agg (ocells (head9 hs))), (124, ev), (125, .pointer (some ⟨wb, 0, none⟩)), (126, .int .i64 (i : Int)), (127, .pointer (some ⟨wb, 0, none⟩)), (128, .pointer (some ⟨wb, 4, none⟩)), (129, .pointer (some ⟨wb, 4 + i, none⟩)), (130, .pointer (some ⟨(D.d i), 0, none⟩)), (131, .pointer (some ⟨N, 6, none⟩)), (132, .slice ha hl hc), (133, .agg (ocells (head9 hs))), (134, .agg #[.int .i64 fc, .int .i64 fa]), (135, .bool true), (4, .bool true)] (by kernel_rfl) ⟨q115, q116, q117, q118, q119, q120, q121, q122, q123, q124, q125, q126, q127, q128, q129, q130, q131, q132, q133, q134, q135, q4, trivial⟩
      clear hall hsame q115 q116 q117 q118 q119 q120 q121 q122 q123 q124 q125 q126 q127 q128 q129 q130 q131 q132 q133 q134 q135 q4
      simp only [List.foldl, List.setIfInBounds_toArray, List.set_cons_succ, List.set_cons_zero]
      rw [HZ.out] at RW MW
      have FIN := Bx.mk (HW.out.both9 IL.out hsn (by decide) RW MW ST.out E2L.out)
      have kp3 := Keep.of_below KB.out (D.F wb)
      clear RW MW hsn
      clear own
      go_wp2_with fail
      go_ret
      obtain ⟨D', q1, q2, q3⟩ := FIN.out
      exact ⟨rfl, D', q1, kp3.trans q2 (fun _ _ h => h), fun k hk => (q3 k hk).imp id (fun h => Nat.le_trans KB.out.size h)⟩
  by_cases h4 : kd = 4
  · subst h4
    obtain ⟨E2, l2, ev, fc, fa, hST, hE2, hKD, hPC, hRC⟩ := join_both9 A base w2 wb D HW.out IL.out KL.out
    have KQ' : Nat := 1
    have OB := Bx.mk (show ∀ k, k < base → own9 D i 12 25 k = none from fun k hk => HW.out.own9_out IL.out (.inl (fun e => by have := HW.out.ge k e; omega)))
    have OWB := Bx.mk (show own9 D i 12 25 wb = none from HW.out.own9_out IL.out (.inr rfl))
    have NLT := Bx.mk (Array.getElem?_eq_some_iff.1 X0.out).1
    have NON := Bx.mk (show own9 D i 12 25 N = none from HW.out.own9_out IL.out (.inl (fun e => by have h1 := HLT.out N e; have h2 := HN.out; omega)))
    have OTOP := Bx.mk (show ∀ k, w2.heap.size ≤ k → own9 D i 12 25 k = none from fun k hk => HW.out.own9_out IL.out (.inl (fun e => by have := HW.out.lt k e; omega)))
    have OMK := Bx.mk (show ∀ j i', K2.VO25mk j = some i' → ∀ k, own9 D i 12 25 k ≠ some j from fun j i' hj k e => by rcases own9_some e with ⟨rfl, -⟩ | ⟨rfl, -⟩ <;> cases hj)
    have BS2 := Bx.mk (Nat.le_trans BA.out KB.out.size); have B2 := Bx.mk (KB.out.mono BA.out)
    have IL1 := Bx.mk (show ¬ (4 : Int) ≤ (i : Int) by have := IL.out; omega); have IL2 := Bx.mk (show (i : Int) < 4 by have := IL.out; omega)
    have KL1 := Bx.mk (show ¬ (4 : Int) ≤ (k : Int) by have := KL.out; omega); have KL2 := Bx.mk (show (k : Int) < 4 by have := KL.out; omega)
    have EV := Bx.mk (fun u (hu : Below base w2 u) => HE.out u (B2.out.trans hu))
    have GR := Bx.mk (D.getR IL.out); have GM := Bx.mk (D.getM IL.out); have GRk := Bx.mk (D.getR KL.out); have GMk := Bx.mk (D.getM KL.out)
    have ST := Bx.mk hST; have E2L := Bx.mk hE2; have SM := Bx.mk (same_kd9 A 1 (by decide) hKD); have PC := Bx.mk hPC; have RC := Bx.mk hRC
    have HIJ := Bx.mk (fun j (hR : D.R i j) (hM : D.M i j) => HW.out.rmx i i IL.out IL.out j hR hM)
    clear hST hE2 hKD hPC hRC
    obtain ⟨Z, hZ⟩ : ∃ Z, Z = w2.heap.size := ⟨_, rfl⟩
    have ZW := Bx.mk (Nat.le_of_eq hZ); have HZ := Bx.mk hZ
    clear hZ KQ'
    go_upto_region 25 with (fail)
    refine K2.wp_region_ownL (n := 226) K2.VO25mk (own9 D i 12 25) (K2.VO25 D wb i k N base E2 Z l2 ev fc fa ha hl hc hs) (by kernel_rfl) (by kernel_rfl) rfl (OTOP.out) (OMK.out) ?_ ?_ ?_
    · exact fun oi oj v own w own' w' hij hnd h r1 => K2.VO25_mono D wb i k N base E2 Z l2 ev fc fa ha hl hc hs oi oj v own w own' w' hij (by rintro rfl rfl; exact Bool.noConfusion (hnd.symm.trans (show depB _ 12 11 = true by kernel_rfl))) (by rintro rfl rfl; exact Bool.noConfusion (hnd.symm.trans (show depB _ 25 24 = true by kernel_rfl))) h r1
    · intro oi o hi f u own hsame hsn hfr hlate hkeep8 hdep
      have hkeep := hkeep8 _ (.inl rfl)
      have hb6 := hsn.below (B := base) OB.out BS2.out
      have hwb := (hsn.keep wb HW.out.wblt OWB.out).trans HW.out.hb
      have hN := (hsn.keep N NLT.out NON.out).trans X0.out
      match oi, hi with
      | 0, hi =>
        cases (show some _ = some o from hi)
        have e0 : f.tmps.getD 0 undef = .pointer (some ⟨wb, 0, none⟩) := hsame.slot 0 (fun i o h => invB2_not 0 (by kernel_rfl) h)
        clear hdep hsame hi hlate hfr hkeep
        exact .inl ⟨wanted_none rfl, K2.showsO_move hsn rfl _ rfl e0⟩
      | 1, hi =>
        cases (show some _ = some o from hi)
        have e5 : f.tmps.getD 5 undef = .int .i64 (i : Int) := hsame.slot 5 (fun i o h => invB2_not 5 (by kernel_rfl) h)
        clear hdep hsame hi hlate hfr hkeep
        exact .inl ⟨wanted_none rfl, K2.showsO_move hsn rfl _ rfl e5⟩
      | 2, hi =>
        cases (show some _ = some o from hi)
        have e138 : (f.tmps.getD 138 undef) = .pointer (some ⟨wb, 0, none⟩) := depO (V := (K2.VO25 D wb i k N base E2 Z l2 ev fc fa ha hl hc hs)) hdep 0 138 (by kernel_rfl) (by kernel_rfl)
        clear hdep hsame hi hlate hfr hkeep
        exact .inl ⟨wanted_none rfl, K2.showsO_pure hsn rfl (.pointer (some ⟨wb, 0, none⟩)) (by simp only [execOp, Act.eval]; go_simp) rfl⟩
      | 3, hi =>
        cases (show some _ = some o from hi)
        have e140 : (f.tmps.getD 140 undef) = .pointer (some ⟨wb, 0, none⟩) := depO (V := (K2.VO25 D wb i k N base E2 Z l2 ev fc fa ha hl hc hs)) hdep 2 140 (by kernel_rfl) (by kernel_rfl)
        clear hdep hsame hi hlate hfr hkeep
        exact .inl ⟨wanted_none rfl, K2.showsO_pure hsn rfl (.pointer (some ⟨wb, 0, none⟩)) (by simp only [execOp, Act.eval]; go_simp) rfl⟩
      | 4, hi =>
        cases (show some _ = some o from hi)
        have e139 : (f.tmps.getD 139 undef) = .int .i64 (i : Int) := depO (V := (K2.VO25 D wb i k N base E2 Z l2 ev fc fa ha hl hc hs)) hdep 1 139 (by kernel_rfl) (by kernel_rfl)
        have e141 : (f.tmps.getD 141 undef) = .pointer (some ⟨wb, 0, none⟩) := depO (V := (K2.VO25 D wb i k N base E2 Z l2 ev fc fa ha hl hc hs)) hdep 3 141 (by kernel_rfl) (by kernel_rfl)
        clear hdep hsame hi hlate hfr hkeep
        have f2 := IL1.out; have f3 := IL2.out
        exact .inl ⟨wanted_none rfl, K2.showsO_pure hsn rfl (.pointer (some ⟨wb, i, none⟩)) (by simp only [execOp, Act.eval]; go_simp) rfl⟩
      | 5, hi =>
        cases (show some _ = some o from hi)
        have e142 : (f.tmps.getD 142 undef) = .pointer (some ⟨wb, i, none⟩) := depO (V := (K2.VO25 D wb i k N base E2 Z l2 ev fc fa ha hl hc hs)) hdep 4 142 (by kernel_rfl) (by kernel_rfl)
        clear hdep hsame hi hlate hfr hkeep
        have c := er_cellAt hwb (i) _ GR.out
        exact .inl ⟨wanted_none rfl, K2.showsO_pure hsn rfl (.pointer (some ⟨(D.r i), 0, none⟩)) (by simp only [execOp, Act.eval]; go_simp) rfl⟩
      | 6, hi =>
        cases (show some _ = some o from hi)
        have e0 : f.tmps.getD 0 undef = .pointer (some ⟨wb, 0, none⟩) := hsame.slot 0 (fun i o h => invB2_not 0 (by kernel_rfl) h)
        clear hdep hsame hi hlate hfr hkeep
        exact .inl ⟨wanted_none rfl, K2.showsO_move hsn rfl _ rfl e0⟩
      | 7, hi =>
        cases (show some _ = some o from hi)
        have e6 : f.tmps.getD 6 undef = .int .i64 (k : Int) := hsame.slot 6 (fun i o h => invB2_not 6 (by kernel_rfl) h)
        clear hdep hsame hi hlate hfr hkeep
        exact .inl ⟨wanted_none rfl, K2.showsO_move hsn rfl _ rfl e6⟩
      | 8, hi =>
        cases (show some _ = some o from hi)
        have e144 : (f.tmps.getD 144 undef) = .pointer (some ⟨wb, 0, none⟩) := depO (V := (K2.VO25 D wb i k N base E2 Z l2 ev fc fa ha hl hc hs)) hdep 6 144 (by kernel_rfl) (by kernel_rfl)
        clear hdep hsame hi hlate hfr hkeep
        exact .inl ⟨wanted_none rfl, K2.showsO_pure hsn rfl (.pointer (some ⟨wb, 0, none⟩)) (by simp only [execOp, Act.eval]; go_simp) rfl⟩
      | 9, hi =>
        cases (show some _ = some o from hi)
        have e146 : (f.tmps.getD 146 undef) = .pointer (some ⟨wb, 0, none⟩) := depO (V := (K2.VO25 D wb i k N base E2 Z l2 ev fc fa ha hl hc hs)) hdep 8 146 (by kernel_rfl) (by kernel_rfl)
        clear hdep hsame hi hlate hfr hkeep
        exact .inl ⟨wanted_none rfl, K2.showsO_pure hsn rfl (.pointer (some ⟨wb, 0, none⟩)) (by simp only [execOp, Act.eval]; go_simp) rfl⟩
      | 10, hi =>
        cases (show some _ = some o from hi)
        have e145 : (f.tmps.getD 145 undef) = .int .i64 (k : Int) := depO (V := (K2.VO25 D wb i k N base E2 Z l2 ev fc fa ha hl hc hs)) hdep 7 145 (by kernel_rfl) (by kernel_rfl)
        have e147 : (f.tmps.getD 147 undef) = .pointer (some ⟨wb, 0, none⟩) := depO (V := (K2.VO25 D wb i k N base E2 Z l2 ev fc fa ha hl hc hs)) hdep 9 147 (by kernel_rfl) (by kernel_rfl)
        clear hdep hsame hi hlate hfr hkeep
        have f2 := KL1.out; have f3 := KL2.out
        exact .inl ⟨wanted_none rfl, K2.showsO_pure hsn rfl (.pointer (some ⟨wb, k, none⟩)) (by simp only [execOp, Act.eval]; go_simp) rfl⟩
      | 11, hi =>
        cases (show some _ = some o from hi)
        have e148 : (f.tmps.getD 148 undef) = .pointer (some ⟨wb, k, none⟩) := depO (V := (K2.VO25 D wb i k N base E2 Z l2 ev fc fa ha hl hc hs)) hdep 10 148 (by kernel_rfl) (by kernel_rfl)
        clear hdep hsame hi hlate hfr hkeep
        have c := er_cellAt hwb (k) _ GRk.out
        exact .inl ⟨wanted_none rfl, K2.showsO_pure hsn rfl (.pointer (some ⟨(D.r k), 0, none⟩)) (by simp only [execOp, Act.eval]; go_simp) rfl⟩
      | 12, hi =>
        cases (show some _ = some o from hi)
        have e143 : (f.tmps.getD 143 undef) = .pointer (some ⟨(D.r i), 0, none⟩) := depO (V := (K2.VO25 D wb i k N base E2 Z l2 ev fc fa ha hl hc hs)) hdep 5 143 (by kernel_rfl) (by kernel_rfl)
        have e149 : (f.tmps.getD 149 undef) = .pointer (some ⟨(D.r k), 0, none⟩) := depO (V := (K2.VO25 D wb i k N base E2 Z l2 ev fc fa ha hl hc hs)) hdep 11 149 (by kernel_rfl) (by kernel_rfl)
        clear hdep hsame hi hlate hfr hkeep
        exact .inl ⟨wanted_none rfl, K2.showsO_appC hsn rfl (new := 11) rfl rfl 20 #[.pointer (some ⟨(D.r i), 0, none⟩), .pointer (some ⟨(D.r k), 0, none⟩)] (by simp only [execOp, Act.eval]; go_simp) (PC.out u ((HW.out.ra i IL.out).kept (HW.out.keepR9 IL.out hsn (hkeep8 12 (.inl rfl))) (fun j hj e => e ⟨i, IL.out, hj⟩)) ((HW.out.ra k KL.out).kept (HW.out.keepR9 IL.out hsn (hkeep8 12 (.inl rfl))) (fun j hj e => e ⟨k, KL.out, hj⟩)) (Nat.le_trans BS2.out hsn.size) (EV.out u hb6).er (fun u' hu' => (EV.out u' (hb6.trans hu')).ts)) (fun k h => (hsn.owns k ((HW.out.ra i IL.out).lt k h)).trans (own9_R h)) (Nat.le_trans ZW.out hsn.size) (fun own' w' h => ⟨rfl, h⟩)⟩
      | 13, hi =>
        cases (show some _ = some o from hi)
        have e0 : f.tmps.getD 0 undef = .pointer (some ⟨wb, 0, none⟩) := hsame.slot 0 (fun i o h => invB2_not 0 (by kernel_rfl) h)
        clear hdep hsame hi hlate hfr hkeep
        exact .inl ⟨wanted_none rfl, K2.showsO_move hsn rfl _ rfl e0⟩
      | 14, hi =>
        cases (show some _ = some o from hi)
        have e5 : f.tmps.getD 5 undef = .int .i64 (i : Int) := hsame.slot 5 (fun i o h => invB2_not 5 (by kernel_rfl) h)
        clear hdep hsame hi hlate hfr hkeep
        exact .inl ⟨wanted_none rfl, K2.showsO_move hsn rfl _ rfl e5⟩
      | 15, hi =>
        cases (show some _ = some o from hi)
        have e151 : (f.tmps.getD 151 undef) = .pointer (some ⟨wb, 0, none⟩) := depO (V := (K2.VO25 D wb i k N base E2 Z l2 ev fc fa ha hl hc hs)) hdep 13 151 (by kernel_rfl) (by kernel_rfl)
        clear hdep hsame hi hlate hfr hkeep
        exact .inl ⟨wanted_none rfl, K2.showsO_pure hsn rfl (.pointer (some ⟨wb, 0, none⟩)) (by simp only [execOp, Act.eval]; go_simp) rfl⟩
      | 16, hi =>
        cases (show some _ = some o from hi)
        have e153 : (f.tmps.getD 153 undef) = .pointer (some ⟨wb, 0, none⟩) := depO (V := (K2.VO25 D wb i k N base E2 Z l2 ev fc fa ha hl hc hs)) hdep 15 153 (by kernel_rfl) (by kernel_rfl)
        clear hdep hsame hi hlate hfr hkeep
        exact .inl ⟨wanted_none rfl, K2.showsO_pure hsn rfl (.pointer (some ⟨wb, 4, none⟩)) (by simp only [execOp, Act.eval]; go_simp) rfl⟩
      | 17, hi =>
        cases (show some _ = some o from hi)
        have e152 : (f.tmps.getD 152 undef) = .int .i64 (i : Int) := depO (V := (K2.VO25 D wb i k N base E2 Z l2 ev fc fa ha hl hc hs)) hdep 14 152 (by kernel_rfl) (by kernel_rfl)
        have e154 : (f.tmps.getD 154 undef) = .pointer (some ⟨wb, 4, none⟩) := depO (V := (K2.VO25 D wb i k N base E2 Z l2 ev fc fa ha hl hc hs)) hdep 16 154 (by kernel_rfl) (by kernel_rfl)
        clear hdep hsame hi hlate hfr hkeep
        have f2 := IL1.out; have f3 := IL2.out
        exact .inl ⟨wanted_none rfl, K2.showsO_pure hsn rfl (.pointer (some ⟨wb, 4 + i, none⟩)) (by simp only [execOp, Act.eval]; go_simp) rfl⟩
      | 18, hi =>
        cases (show some _ = some o from hi)
        have e155 : (f.tmps.getD 155 undef) = .pointer (some ⟨wb, 4 + i, none⟩) := depO (V := (K2.VO25 D wb i k N base E2 Z l2 ev fc fa ha hl hc hs)) hdep 17 155 (by kernel_rfl) (by kernel_rfl)
        clear hdep hsame hi hlate hfr hkeep
        have c := er_cellAt hwb (4 + i) _ GM.out
        exact .inl ⟨wanted_none rfl, K2.showsO_pure hsn rfl (.pointer (some ⟨(D.d i), 0, none⟩)) (by simp only [execOp, Act.eval]; go_simp) rfl⟩
      | 19, hi =>
        cases (show some _ = some o from hi)
        have e0 : f.tmps.getD 0 undef = .pointer (some ⟨wb, 0, none⟩) := hsame.slot 0 (fun i o h => invB2_not 0 (by kernel_rfl) h)
        clear hdep hsame hi hlate hfr hkeep
        exact .inl ⟨wanted_none rfl, K2.showsO_move hsn rfl _ rfl e0⟩
      | 20, hi =>
        cases (show some _ = some o from hi)
        have e6 : f.tmps.getD 6 undef = .int .i64 (k : Int) := hsame.slot 6 (fun i o h => invB2_not 6 (by kernel_rfl) h)
        clear hdep hsame hi hlate hfr hkeep
        exact .inl ⟨wanted_none rfl, K2.showsO_move hsn rfl _ rfl e6⟩
      | 21, hi =>
        cases (show some _ = some o from hi)
        have e157 : (f.tmps.getD 157 undef) = .pointer (some ⟨wb, 0, none⟩) := depO (V := (K2.VO25 D wb i k N base E2 Z l2 ev fc fa ha hl hc hs)) hdep 19 157 (by kernel_rfl) (by kernel_rfl)
        clear hdep hsame hi hlate hfr hkeep
        exact .inl ⟨wanted_none rfl, K2.showsO_pure hsn rfl (.pointer (some ⟨wb, 0, none⟩)) (by simp only [execOp, Act.eval]; go_simp) rfl⟩
      | 22, hi =>
        cases (show some _ = some o from hi)
        have e159 : (f.tmps.getD 159 undef) = .pointer (some ⟨wb, 0, none⟩) := depO (V := (K2.VO25 D wb i k N base E2 Z l2 ev fc fa ha hl hc hs)) hdep 21 159 (by kernel_rfl) (by kernel_rfl)
        clear hdep hsame hi hlate hfr hkeep
        exact .inl ⟨wanted_none rfl, K2.showsO_pure hsn rfl (.pointer (some ⟨wb, 4, none⟩)) (by simp only [execOp, Act.eval]; go_simp) rfl⟩
      | 23, hi =>
        cases (show some _ = some o from hi)
        have e158 : (f.tmps.getD 158 undef) = .int .i64 (k : Int) := depO (V := (K2.VO25 D wb i k N base E2 Z l2 ev fc fa ha hl hc hs)) hdep 20 158 (by kernel_rfl) (by kernel_rfl)
        have e160 : (f.tmps.getD 160 undef) = .pointer (some ⟨wb, 4, none⟩) := depO (V := (K2.VO25 D wb i k N base E2 Z l2 ev fc fa ha hl hc hs)) hdep 22 160 (by kernel_rfl) (by kernel_rfl)
        clear hdep hsame hi hlate hfr hkeep
        have f2 := KL1.out; have f3 := KL2.out
        exact .inl ⟨wanted_none rfl, K2.showsO_pure hsn rfl (.pointer (some ⟨wb, 4 + k, none⟩)) (by simp only [execOp, Act.eval]; go_simp) rfl⟩
      | 24, hi =>
        cases (show some _ = some o from hi)
        have e161 : (f.tmps.getD 161 undef) = .pointer (some ⟨wb, 4 + k, none⟩) := depO (V := (K2.VO25 D wb i k N base E2 Z l2 ev fc fa ha hl hc hs)) hdep 23 161 (by kernel_rfl) (by kernel_rfl)
        clear hdep hsame hi hlate hfr hkeep
        have c := er_cellAt hwb (4 + k) _ GMk.out
        exact .inl ⟨wanted_none rfl, K2.showsO_pure hsn rfl (.pointer (some ⟨(D.d k), 0, none⟩)) (by simp only [execOp, Act.eval]; go_simp) rfl⟩
      | 25, hi =>
        cases (show some _ = some o from hi)
        have e156 : (f.tmps.getD 156 undef) = .pointer (some ⟨(D.d i), 0, none⟩) := depO (V := (K2.VO25 D wb i k N base E2 Z l2 ev fc fa ha hl hc hs)) hdep 18 156 (by kernel_rfl) (by kernel_rfl)
        have e162 : (f.tmps.getD 162 undef) = .pointer (some ⟨(D.d k), 0, none⟩) := depO (V := (K2.VO25 D wb i k N base E2 Z l2 ev fc fa ha hl hc hs)) hdep 24 162 (by kernel_rfl) (by kernel_rfl)
        clear hdep hsame hi hlate hfr hkeep
        exact .inl ⟨wanted_none rfl, K2.showsO_rappC hsn rfl (new := 24) rfl rfl 21 #[.pointer (some ⟨(D.d i), 0, none⟩), .pointer (some ⟨(D.d k), 0, none⟩)] (by simp only [execOp, Act.eval]; go_simp) (RC.out u ((HW.out.rm i IL.out).kept (HW.out.keepM9 IL.out hsn (hkeep8 25 (.inl rfl))) (fun j hj e => e ⟨i, IL.out, hj⟩)) ((HW.out.rm k KL.out).kept (HW.out.keepM9 IL.out hsn (hkeep8 25 (.inl rfl))) (fun j hj e => e ⟨k, KL.out, hj⟩)) (Nat.le_trans BS2.out hsn.size)) (fun k h => (hsn.owns k ((HW.out.rm i IL.out).lt k h)).trans (own9_M h (fun e => HIJ.out k e h))) (Nat.le_trans ZW.out hsn.size) (fun own' w' h => ⟨rfl, h⟩)⟩
      | 26, hi =>
        cases (show some _ = some o from hi)
        have e150 : (f.tmps.getD 150 undef) = ev ∧ K2.RaW own u 12 11 base (D.r i) (D.B i) E2 l2 (D.sv i) Z := depO (V := (K2.VO25 D wb i k N base E2 Z l2 ev fc fa ha hl hc hs)) hdep 12 150 (by kernel_rfl) (by kernel_rfl)
        have e163 : (f.tmps.getD 163 undef) = .agg #[.int .i64 fc, .int .i64 fa] ∧ K2.RmW own u 25 24 base (D.d i) (D.B i) E2 l2 (D.dv i) Z := depO (V := (K2.VO25 D wb i k N base E2 Z l2 ev fc fa ha hl hc hs)) hdep 25 163 (by kernel_rfl) (by kernel_rfl)
        clear hdep hsame hi hlate hfr hkeep
        obtain ⟨e150, -⟩ := e150
        obtain ⟨e163, -⟩ := e163
        have c := SM.out u (EV.out u hb6).er
        exact .inl ⟨wanted_none rfl, K2.showsO_call1 hsn rfl 15 #[ev, .agg #[.int .i64 fc, .int .i64 fa]] (by simp only [execOp, Act.eval]; go_simp) (c) (fun _ => rfl)⟩
      | 27, hi =>
        cases (show some _ = some o from hi)
        have e164 : (f.tmps.getD 164 undef) = .bool true := depO (V := (K2.VO25 D wb i k N base E2 Z l2 ev fc fa ha hl hc hs)) hdep 26 164 (by kernel_rfl) (by kernel_rfl)
        clear hdep hsame hi hlate hfr hkeep
        exact .inl ⟨wanted_none rfl, K2.showsO_assign hsn rfl _ rfl e164⟩
      | n + 28, hi => exact absurd hi (by simp)
    · intro f W3 own hsame hsn hall
      have q138 : f.tmps.getD 138 undef = .pointer (some ⟨wb, 0, none⟩) := finO (V := (K2.VO25 D wb i k N base E2 Z l2 ev fc fa ha hl hc hs)) hall 0 138 rfl
      have q139 : f.tmps.getD 139 undef = .int .i64 (i : Int) := finO (V := (K2.VO25 D wb i k N base E2 Z l2 ev fc fa ha hl hc hs)) hall 1 139 rfl
      have q140 : f.tmps.getD 140 undef = .pointer (some ⟨wb, 0, none⟩) := finO (V := (K2.VO25 D wb i k N base E2 Z l2 ev fc fa ha hl hc hs)) hall 2 140 rfl
      have q141 : f.tmps.getD 141 undef = .pointer (some ⟨wb, 0, none⟩) := finO (V := (K2.VO25 D wb i k N base E2 Z l2 ev fc fa ha hl hc hs)) hall 3 141 rfl
      have q142 : f.tmps.getD 142 undef = .pointer (some ⟨wb, i, none⟩) := finO (V := (K2.VO25 D wb i k N base E2 Z l2 ev fc fa ha hl hc hs)) hall 4 142 rfl
      have q143 : f.tmps.getD 143 undef = .pointer (some ⟨(D.r i), 0, none⟩) := finO (V := (K2.VO25 D wb i k N base E2 Z l2 ev fc fa ha hl hc hs)) hall 5 143 rfl
      have q144 : f.tmps.getD 144 undef = .pointer (some ⟨wb, 0, none⟩) := finO (V := (K2.VO25 D wb i k N base E2 Z l2 ev fc fa ha hl hc hs)) hall 6 144 rfl
      have q145 : f.tmps.getD 145 undef = .int .i64 (k : Int) := finO (V := (K2.VO25 D wb i k N base E2 Z l2 ev fc fa ha hl hc hs)) hall 7 145 rfl
      have q146 : f.tmps.getD 146 undef = .pointer (some ⟨wb, 0, none⟩) := finO (V := (K2.VO25 D wb i k N base E2 Z l2 ev fc fa ha hl hc hs)) hall 8 146 rfl
      have q147 : f.tmps.getD 147 undef = .pointer (some ⟨wb, 0, none⟩) := finO (V := (K2.VO25 D wb i k N base E2 Z l2 ev fc fa ha hl hc hs)) hall 9 147 rfl
      have q148 : f.tmps.getD 148 undef = .pointer (some ⟨wb, k, none⟩) := finO (V := (K2.VO25 D wb i k N base E2 Z l2 ev fc fa ha hl hc hs)) hall 10 148 rfl
      have q149 : f.tmps.getD 149 undef = .pointer (some ⟨(D.r k), 0, none⟩) := finO (V := (K2.VO25 D wb i k N base E2 Z l2 ev fc fa ha hl hc hs)) hall 11 149 rfl
      obtain ⟨q150, RW⟩ := finO (V := (K2.VO25 D wb i k N base E2 Z l2 ev fc fa ha hl hc hs)) hall 12 150 rfl
      have q151 : f.tmps.getD 151 undef = .pointer (some ⟨wb, 0, none⟩) := finO (V := (K2.VO25 D wb i k N base E2 Z l2 ev fc fa ha hl hc hs)) hall 13 151 rfl
      have q152 : f.tmps.getD 152 undef = .int .i64 (i : Int) := finO (V := (K2.VO25 D wb i k N base E2 Z l2 ev fc fa ha hl hc hs)) hall 14 152 rfl
      have q153 : f.tmps.getD 153 undef = .pointer (some ⟨wb, 0, none⟩) := finO (V := (K2.VO25 D wb i k N base E2 Z l2 ev fc fa ha hl hc hs)) hall 15 153 rfl
      have q154 : f.tmps.getD 154 undef = .pointer (some ⟨wb, 4, none⟩) := finO (V := (K2.VO25 D wb i k N base E2 Z l2 ev fc fa ha hl hc hs)) hall 16 154 rfl
      have q155 : f.tmps.getD 155 undef = .pointer (some ⟨wb, 4 + i, none⟩) := finO (V := (K2.VO25 D wb i k N base E2 Z l2 ev fc fa ha hl hc hs)) hall 17 155 rfl
      have q156 : f.tmps.getD 156 undef = .pointer (some ⟨(D.d i), 0, none⟩) := finO (V := (K2.VO25 D wb i k N base E2 Z l2 ev fc fa ha hl hc hs)) hall 18 156 rfl
      have q157 : f.tmps.getD 157 undef = .pointer (some ⟨wb, 0, none⟩) := finO (V := (K2.VO25 D wb i k N base E2 Z l2 ev fc fa ha hl hc hs)) hall 19 157 rfl
      have q158 : f.tmps.getD 158 undef = .int .i64 (k : Int) := finO (V := (K2.VO25 D wb i k N base E2 Z l2 ev fc fa ha hl hc hs)) hall 20 158 rfl
      have q159 : f.tmps.getD 159 undef = .pointer (some ⟨wb, 0, none⟩) := finO (V := (K2.VO25 D wb i k N base E2 Z l2 ev fc fa ha hl hc hs)) hall 21 159 rfl
      have q160 : f.tmps.getD 160 undef = .pointer (some ⟨wb, 4, none⟩) := finO (V := (K2.VO25 D wb i k N base E2 Z l2 ev fc fa ha hl hc hs)) hall 22 160 rfl
      have q161 : f.tmps.getD 161 undef = .pointer (some ⟨wb, 4 + k, none⟩) := finO (V := (K2.VO25 D wb i k N base E2 Z l2 ev fc fa ha hl hc hs)) hall 23 161 rfl
      have q162 : f.tmps.getD 162 undef = .pointer (some ⟨(D.d k), 0, none⟩) := finO (V := (K2.VO25 D wb i k N base E2 Z l2 ev fc fa ha hl hc hs)) hall 24 162 rfl
      obtain ⟨q163, MW⟩ := finO (V := (K2.VO25 D wb i k N base E2 Z l2 ev fc fa ha hl hc hs)) hall 25 163 rfl
      have q164 : f.tmps.getD 164 undef = .bool true := finO (V := (K2.VO25 D wb i k N base E2 Z l2 ev fc fa ha hl hc hs)) hall 26 164 rfl
      have q4 : f.tmps.getD 4 undef = .bool true := finO (V := (K2.VO25 D wb i k N base E2 Z l2 ev fc fa ha hl hc hs)) hall 27 4 rfl
      obtain rfl := frame_eq hsame [(138, .pointer (some ⟨wb, 0, none⟩)), (139, .int .i64 (i : Int)), (140, .pointer (some ⟨wb, 0, none⟩)), (141, .pointer (some ⟨wb, 0, none⟩)), (142, .pointer (some ⟨wb, i, none⟩)), (143, .pointer (some ⟨(D.r i), 0, none⟩)), (144, .pointer (some ⟨wb, 0, none⟩)), (145, .int .i64 (k : Int)), (146, .pointer (some ⟨wb, 0, none⟩)), (147, .pointer (some ⟨wb, 0, none⟩)), (148, .pointer (some ⟨wb, k, none⟩)), (149, .pointer (some ⟨(D.r k), 0, none⟩)), (150, ev), (151, .pointer (some ⟨wb, 0, none⟩)), (152, .int .i64 (i : Int)), (153, .pointer (some ⟨wb, 0, none⟩)), (154, .pointer (some ⟨wb, 4, none⟩)), (155, .pointer (some ⟨wb, 4 + i, none⟩)), (156, .pointer (some ⟨(D.d i), 0, none⟩)), (157, .pointer (some ⟨wb, 0, none⟩)), (158, .int .i64 (k : Int)), (159, .pointer (some ⟨wb, 0, none⟩)), (160, .pointer (some ⟨wb, 4, none⟩)), (161, .pointer (some ⟨wb, 4 + k, none⟩)), (162, .pointer (some ⟨(D.d k), 0, none⟩)), (163, .agg #[.int .i64 fc, .int .i64 fa]), (164, .bool true), (4, .bool true)] (by kernel_rfl) ⟨q138, q139, q140, q141, q142, q143, q144, q145, q146, q147, q148, q149, q150, q151, q152, q153, q154, q155, q156, q157, q158, q159, q160, q161, q162, q163, q164, q4, trivial⟩
      clear hall hsame q138 q139 q140 q141 q142 q143 q144 q145 q146 q147 q148 q149 q150 q151 q152 q153 q154 q155 q156 q157 q158 q159 q160 q161 q162 q163 q164 q4
      simp only [List.foldl, List.setIfInBounds_toArray, List.set_cons_succ, List.set_cons_zero]
      rw [HZ.out] at RW MW
      have FIN := Bx.mk (HW.out.both9 IL.out hsn (by decide) RW MW ST.out E2L.out)
      have kp3 := Keep.of_below KB.out (D.F wb)
      clear RW MW hsn
      clear own
      go_wp2_with fail
      go_ret
      obtain ⟨D', q1, q2, q3⟩ := FIN.out
      exact ⟨rfl, D', q1, kp3.trans q2 (fun _ _ h => h), fun k hk => (q3 k hk).imp id (fun h => Nat.le_trans KB.out.size h)⟩
  by_cases h5 : kd = 5
  · subst h5
    go_upto_region 27 with (fail)
    have W0' := w2
    have XB := Bx.mk HW.out.hb
    have WBL := Bx.mk HW.out.wblt
    have BS := Bx.mk (show base ≤ w2.heap.size from Nat.le_trans BA.out KB.out.size)
    have IL1 := Bx.mk (show ¬ (4 : Int) ≤ (i : Int) by have := IL.out; omega); have IL2 := Bx.mk (show (i : Int) < 4 by have := IL.out; omega)
    have KL1 := Bx.mk (show ¬ (4 : Int) ≤ (k : Int) by have := KL.out; omega); have KL2 := Bx.mk (show (k : Int) < 4 by have := KL.out; omega)
    have CGi := Bx.mk (D.getR IL.out); have CGk := Bx.mk (D.getR KL.out)
    have CC := Bx.mk (fun u (hu : Keep (fun j => j = wb) w2 u) => rcopy_any base u (D.r i) (D.B i) (D.E i) (D.l i) (D.sv i) ((HW.out.ra i IL.out).kept hu (fun j hj e => (HW.out.rw i IL.out).1 (by rw [← show j = wb from e]; exact hj))) (Nat.le_trans (HW.out.st i IL.out).le (by decide)))
    have ZW := Bx.mk (Nat.le_refl w2.heap.size)
    refine wp_region_own8 (n := 226) VO27mk (fun j => if j = wb then some 12 else none) (VO27 D wb i k base w2.heap.size (D.B i) (D.E i) (D.l i) D.cells) (by kernel_rfl) (by kernel_rfl) rfl (fun j hj => if_neg (by have := WBL.out; omega)) (fun j i hj _ => by cases hj) ?_ ?_ ?_
    · exact fun oi oj v own w own' w' hij _ h r1 => VO27_mono D wb i k base w2.heap.size (D.B i) (D.E i) (D.l i) D.cells oi oj v own w own' w' hij h r1
    · intro oi o hi f u own hsame hsn hfr hlate hkeep8 hdep
      have hkeep := hkeep8 _ (.inl rfl)
      have hb6 : Keep (fun j => j = wb) w2 u := ⟨hsn.os, hsn.tape, hsn.output, hsn.size, fun j hj hn => hsn.keep j hj (if_neg hn)⟩
      match oi, hi with
      | 0, hi =>
        cases (show some _ = some o from hi)
        have e0 : f.tmps.getD 0 undef = .pointer (some ⟨wb, 0, none⟩) := hsame.slot 0 (fun i o h => invB2_not 0 (by kernel_rfl) h)
        clear hdep hsame hi hlate hfr hkeep
        exact .inl ⟨wanted_none rfl, showsO_move hsn rfl _ rfl e0⟩
      | 1, hi =>
        cases (show some _ = some o from hi)
        have e6 : f.tmps.getD 6 undef = .int .i64 (k : Int) := hsame.slot 6 (fun i o h => invB2_not 6 (by kernel_rfl) h)
        clear hdep hsame hi hlate hfr hkeep
        exact .inl ⟨wanted_none rfl, showsO_move hsn rfl _ rfl e6⟩
      | 2, hi =>
        cases (show some _ = some o from hi)
        have e0 : f.tmps.getD 0 undef = .pointer (some ⟨wb, 0, none⟩) := hsame.slot 0 (fun i o h => invB2_not 0 (by kernel_rfl) h)
        clear hdep hsame hi hlate hfr hkeep
        exact .inl ⟨wanted_none rfl, showsO_move hsn rfl _ rfl e0⟩
      | 3, hi =>
        cases (show some _ = some o from hi)
        have e5 : f.tmps.getD 5 undef = .int .i64 (i : Int) := hsame.slot 5 (fun i o h => invB2_not 5 (by kernel_rfl) h)
        clear hdep hsame hi hlate hfr hkeep
        exact .inl ⟨wanted_none rfl, showsO_move hsn rfl _ rfl e5⟩
      | 4, hi =>
        cases (show some _ = some o from hi)
        have e169 : (f.tmps.getD 169 undef) = .pointer (some ⟨wb, 0, none⟩) := depO (V := (VO27 D wb i k base w2.heap.size (D.B i) (D.E i) (D.l i) D.cells)) hdep 2 169 (by kernel_rfl) (by kernel_rfl)
        clear hdep hsame hi hlate hfr hkeep
        exact .inl ⟨wanted_none rfl, showsO_pure hsn rfl (.pointer (some ⟨wb, 0, none⟩)) (by simp only [execOp, Act.eval]; go_simp) rfl⟩
      | 5, hi =>
        cases (show some _ = some o from hi)
        have e171 : (f.tmps.getD 171 undef) = .pointer (some ⟨wb, 0, none⟩) := depO (V := (VO27 D wb i k base w2.heap.size (D.B i) (D.E i) (D.l i) D.cells)) hdep 4 171 (by kernel_rfl) (by kernel_rfl)
        clear hdep hsame hi hlate hfr hkeep
        exact .inl ⟨wanted_none rfl, showsO_pure hsn rfl (.pointer (some ⟨wb, 0, none⟩)) (by simp only [execOp, Act.eval]; go_simp) rfl⟩
      | 6, hi =>
        cases (show some _ = some o from hi)
        have e170 : (f.tmps.getD 170 undef) = .int .i64 (i : Int) := depO (V := (VO27 D wb i k base w2.heap.size (D.B i) (D.E i) (D.l i) D.cells)) hdep 3 170 (by kernel_rfl) (by kernel_rfl)
        have e172 : (f.tmps.getD 172 undef) = .pointer (some ⟨wb, 0, none⟩) := depO (V := (VO27 D wb i k base w2.heap.size (D.B i) (D.E i) (D.l i) D.cells)) hdep 5 172 (by kernel_rfl) (by kernel_rfl)
        clear hdep hsame hi hlate hfr hkeep
        have f2 := IL1.out; have f3 := IL2.out
        exact .inl ⟨wanted_none rfl, showsO_pure hsn rfl (.pointer (some ⟨wb, i, none⟩)) (by simp only [execOp, Act.eval]; go_simp) rfl⟩
      | 7, hi =>
        cases (show some _ = some o from hi)
        have e173 : (f.tmps.getD 173 undef) = .pointer (some ⟨wb, i, none⟩) := depO (V := (VO27 D wb i k base w2.heap.size (D.B i) (D.E i) (D.l i) D.cells)) hdep 6 173 (by kernel_rfl) (by kernel_rfl)
        clear hdep hsame hi hlate hfr hkeep
        have hbU := (hkeep8 12 (.inr (by kernel_rfl)) wb WBL.out (if_pos rfl)).trans XB.out
        have c := er_cellAt hbU (i) _ CGi.out
        exact .inl ⟨wanted_none rfl, showsO_pure hsn rfl (.pointer (some ⟨(D.r i), 0, none⟩)) (by simp only [execOp, Act.eval]; go_simp) rfl⟩
      | 8, hi =>
        cases (show some _ = some o from hi)
        have e174 : (f.tmps.getD 174 undef) = .pointer (some ⟨(D.r i), 0, none⟩) := depO (V := (VO27 D wb i k base w2.heap.size (D.B i) (D.E i) (D.l i) D.cells)) hdep 7 174 (by kernel_rfl) (by kernel_rfl)
        clear hdep hsame hi hlate hfr hkeep
        have c := (CC.out u hb6).mono (fun e w1 ⟨b, t, h1, h2, h3⟩ => (⟨_, h1, ⟨b, t, rfl, h2⟩, h3⟩ : ∃ v, e = Ending.returned v ∧ (∃ b t, v = Value.pointer (some ⟨b, 0, none⟩) ∧ RaP u.heap.size w1 b (D.B i) (D.E i) (D.l i) t) ∧ Below u.heap.size u w1))
        exact .inl ⟨wanted_none rfl, showsO_call (R := fun v w' => ∃ b t, v = .pointer (some ⟨b, 0, none⟩) ∧ RaP u.heap.size w' b (D.B i) (D.E i) (D.l i) t) hsn rfl 22 #[.pointer (some ⟨(D.r i), 0, none⟩)] (by simp only [execOp, Act.eval]; go_simp) c (fun v w' ⟨b, t, e, h⟩ _ => ⟨b, e, t, h.mono (Nat.le_trans BS.out hsn.size), fun j hj => ⟨hsn.top j (h.ge j hj), Nat.le_trans (Nat.le_trans ZW.out hsn.size) (h.ge j hj)⟩⟩)⟩
      | 9, hi =>
        cases (show some _ = some o from hi)
        have e167 : (f.tmps.getD 167 undef) = .pointer (some ⟨wb, 0, none⟩) := depO (V := (VO27 D wb i k base w2.heap.size (D.B i) (D.E i) (D.l i) D.cells)) hdep 0 167 (by kernel_rfl) (by kernel_rfl)
        clear hdep hsame hi hlate hfr hkeep
        exact .inl ⟨wanted_none rfl, showsO_pure hsn rfl (.pointer (some ⟨wb, 0, none⟩)) (by simp only [execOp, Act.eval]; go_simp) rfl⟩
      | 10, hi =>
        cases (show some _ = some o from hi)
        have e176 : (f.tmps.getD 176 undef) = .pointer (some ⟨wb, 0, none⟩) := depO (V := (VO27 D wb i k base w2.heap.size (D.B i) (D.E i) (D.l i) D.cells)) hdep 9 176 (by kernel_rfl) (by kernel_rfl)
        clear hdep hsame hi hlate hfr hkeep
        exact .inl ⟨wanted_none rfl, showsO_pure hsn rfl (.pointer (some ⟨wb, 0, none⟩)) (by simp only [execOp, Act.eval]; go_simp) rfl⟩
      | 11, hi =>
        cases (show some _ = some o from hi)
        have e168 : (f.tmps.getD 168 undef) = .int .i64 (k : Int) := depO (V := (VO27 D wb i k base w2.heap.size (D.B i) (D.E i) (D.l i) D.cells)) hdep 1 168 (by kernel_rfl) (by kernel_rfl)
        have e177 : (f.tmps.getD 177 undef) = .pointer (some ⟨wb, 0, none⟩) := depO (V := (VO27 D wb i k base w2.heap.size (D.B i) (D.E i) (D.l i) D.cells)) hdep 10 177 (by kernel_rfl) (by kernel_rfl)
        clear hdep hsame hi hlate hfr hkeep
        have f2 := KL1.out; have f3 := KL2.out
        exact .inl ⟨wanted_none rfl, showsO_pure hsn rfl (.pointer (some ⟨wb, k, none⟩)) (by simp only [execOp, Act.eval]; go_simp) rfl⟩
      | 12, hi =>
        cases (show some _ = some o from hi)
        have e175 : PtC (fun b => NrL own u base w2.heap.size b (D.B i) (D.E i) (D.l i)) (f.tmps.getD 175 undef) := depO (V := (VO27 D wb i k base w2.heap.size (D.B i) (D.E i) (D.l i) D.cells)) hdep 8 175 (by kernel_rfl) (by kernel_rfl)
        have e178 : (f.tmps.getD 178 undef) = .pointer (some ⟨wb, k, none⟩) := depO (V := (VO27 D wb i k base w2.heap.size (D.B i) (D.E i) (D.l i) D.cells)) hdep 11 178 (by kernel_rfl) (by kernel_rfl)
        clear hdep hsame hi hlate hfr hkeep
        obtain ⟨b, e175, t, N175, N175b⟩ := e175
        have hbU := (hkeep8 12 (.inl rfl) wb WBL.out (if_pos rfl)).trans XB.out
        have hst := er_cellAt hbU (k) _ CGk.out
        have hfr2 := frozenC hbU (k)
        exact .inl ⟨wanted_none rfl, showsO_store_cell hsn hkeep8 rfl wb (k) D.cells 30 XB.out (if_pos rfl) (.pointer (some ⟨b, 0, none⟩)) (by simp only [execOp, Act.eval]; go_simp) (fun h => ⟨b, h, t, N175.kept (Keep.setCell u ⟨wb, k, none⟩ _) (fun j hj e => by have e : j = wb := e; have h3 := (N175b j hj).1; rw [e, hsn.owns wb WBL.out, if_pos rfl] at h3; cases h3), N175b⟩)⟩
      | n + 13, hi => exact absurd hi (by simp)
    · intro f W3 own hsame hsn hall
      have q167 : f.tmps.getD 167 undef = .pointer (some ⟨wb, 0, none⟩) := finO (V := (VO27 D wb i k base w2.heap.size (D.B i) (D.E i) (D.l i) D.cells)) hall 0 167 rfl
      have q168 : f.tmps.getD 168 undef = .int .i64 (k : Int) := finO (V := (VO27 D wb i k base w2.heap.size (D.B i) (D.E i) (D.l i) D.cells)) hall 1 168 rfl
      have q169 : f.tmps.getD 169 undef = .pointer (some ⟨wb, 0, none⟩) := finO (V := (VO27 D wb i k base w2.heap.size (D.B i) (D.E i) (D.l i) D.cells)) hall 2 169 rfl
      have q170 : f.tmps.getD 170 undef = .int .i64 (i : Int) := finO (V := (VO27 D wb i k base w2.heap.size (D.B i) (D.E i) (D.l i) D.cells)) hall 3 170 rfl
      have q171 : f.tmps.getD 171 undef = .pointer (some ⟨wb, 0, none⟩) := finO (V := (VO27 D wb i k base w2.heap.size (D.B i) (D.E i) (D.l i) D.cells)) hall 4 171 rfl
      have q172 : f.tmps.getD 172 undef = .pointer (some ⟨wb, 0, none⟩) := finO (V := (VO27 D wb i k base w2.heap.size (D.B i) (D.E i) (D.l i) D.cells)) hall 5 172 rfl
      have q173 : f.tmps.getD 173 undef = .pointer (some ⟨wb, i, none⟩) := finO (V := (VO27 D wb i k base w2.heap.size (D.B i) (D.E i) (D.l i) D.cells)) hall 6 173 rfl
      have q174 : f.tmps.getD 174 undef = .pointer (some ⟨(D.r i), 0, none⟩) := finO (V := (VO27 D wb i k base w2.heap.size (D.B i) (D.E i) (D.l i) D.cells)) hall 7 174 rfl
      obtain ⟨b175, q175, N175⟩ := finO (V := (VO27 D wb i k base w2.heap.size (D.B i) (D.E i) (D.l i) D.cells)) hall 8 175 rfl
      have q176 : f.tmps.getD 176 undef = .pointer (some ⟨wb, 0, none⟩) := finO (V := (VO27 D wb i k base w2.heap.size (D.B i) (D.E i) (D.l i) D.cells)) hall 9 176 rfl
      have q177 : f.tmps.getD 177 undef = .pointer (some ⟨wb, 0, none⟩) := finO (V := (VO27 D wb i k base w2.heap.size (D.B i) (D.E i) (D.l i) D.cells)) hall 10 177 rfl
      have q178 : f.tmps.getD 178 undef = .pointer (some ⟨wb, k, none⟩) := finO (V := (VO27 D wb i k base w2.heap.size (D.B i) (D.E i) (D.l i) D.cells)) hall 11 178 rfl
      obtain ⟨bz, ⟨oz, mz⟩, NZ⟩ := finN (V := (VO27 D wb i k base w2.heap.size (D.B i) (D.E i) (D.l i) D.cells)) hall 12 rfl
      obtain rfl := frame_eq hsame [(167, .pointer (some ⟨wb, 0, none⟩)), (168, .int .i64 (k : Int)), (169, .pointer (some ⟨wb, 0, none⟩)), (170, .int .i64 (i : Int)), (171, .pointer (some ⟨wb, 0, none⟩)), (172, .pointer (some ⟨wb, 0, none⟩)), (173, .pointer (some ⟨wb, i, none⟩)), (174, .pointer (some ⟨(D.r i), 0, none⟩)), (175, (.pointer (some ⟨b175, 0, none⟩))), (176, .pointer (some ⟨wb, 0, none⟩)), (177, .pointer (some ⟨wb, 0, none⟩)), (178, .pointer (some ⟨wb, k, none⟩))] (by kernel_rfl) ⟨q167, q168, q169, q170, q171, q172, q173, q174, q175, q176, q177, q178, trivial⟩
      clear hall hsame q167 q168 q169 q170 q171 q172 q173 q174 q175 q176 q177 q178
      simp only [List.foldl, List.setIfInBounds_toArray, List.set_cons_succ, List.set_cons_zero]
      have kp3 := hsn.keepOne
      have XB3 := Bx.mk mz
      have KP3 := Bx.mk kp3
      obtain ⟨tz, NR4⟩ : ∃ t, Bx (RaP base W3 bz (D.B i) (D.E i) (D.l i) t ∧ ∀ j, RaS bz t j → j ≠ wb ∧ w2.heap.size ≤ j) := by
        obtain ⟨t, h1, h2⟩ := NZ
        exact ⟨t, ⟨h1, fun j hj => ⟨fun e => by have := (h2 j hj).2; have := WBL.out; omega, (h2 j hj).2⟩⟩⟩
      clear hsn kp3 mz oz NZ N175
      clear own
      have XB2 := XB; have BS2 := BS; have WBL2 := WBL
      clear XB BS WBL CGi CGk CC ZW W0'
      go_upto_region 28 with (fail)
      have XB := XB3
      have WBL := Bx.mk (Array.getElem?_eq_some_iff.1 XB.out).1
      have BS := Bx.mk (show base ≤ W3.heap.size from Nat.le_trans BS2.out KP3.out.size)
      have CGi := Bx.mk (show (D.cells.setIfInBounds k (.pointer (some ⟨bz, 0, none⟩)))[4 + i]? = some (.pointer (some ⟨D.d i, 0, none⟩)) from (Array.getElem?_setIfInBounds_ne (by have := KL.out; omega)).trans (D.getM IL.out))
      have CGk := Bx.mk (show (D.cells.setIfInBounds k (.pointer (some ⟨bz, 0, none⟩)))[4 + k]? = some (.pointer (some ⟨D.d k, 0, none⟩)) from (Array.getElem?_setIfInBounds_ne (by omega)).trans (D.getM KL.out))
      have CC := Bx.mk (fun u (hu : Keep (fun j => j = wb) W3 u) => rmcopy_any base u (D.d i) (D.B i) (D.E i) (D.l i) (D.dv i) ((HW.out.rm i IL.out).kept (KP3.out.trans hu (fun _ _ h => h)) (fun j hj e => (HW.out.rw i IL.out).2 (by rw [← show j = wb from e]; exact hj))) (Nat.le_trans (HW.out.st i IL.out).le (by decide)))
      have ZW := Bx.mk (Nat.le_refl W3.heap.size)
      refine wp_region_own8 (n := 226) VO28mk (fun j => if j = wb then some 12 else none) (VO28 D wb i k base W3.heap.size (D.B i) (D.E i) (D.l i) (D.cells.setIfInBounds k (.pointer (some ⟨bz, 0, none⟩)))) (by kernel_rfl) (by kernel_rfl) rfl (fun j hj => if_neg (by have := WBL.out; omega)) (fun j i hj _ => by cases hj) ?_ ?_ ?_
      · exact fun oi oj v own w own' w' hij _ h r1 => VO28_mono D wb i k base W3.heap.size (D.B i) (D.E i) (D.l i) (D.cells.setIfInBounds k (.pointer (some ⟨bz, 0, none⟩))) oi oj v own w own' w' hij h r1
      · intro oi o hi f u own hsame hsn hfr hlate hkeep8 hdep
        have hkeep := hkeep8 _ (.inl rfl)
        have hb6 : Keep (fun j => j = wb) W3 u := ⟨hsn.os, hsn.tape, hsn.output, hsn.size, fun j hj hn => hsn.keep j hj (if_neg hn)⟩
        match oi, hi with
        | 0, hi =>
          cases (show some _ = some o from hi)
          have e0 : f.tmps.getD 0 undef = .pointer (some ⟨wb, 0, none⟩) := hsame.slot 0 (fun i o h => invB2_not 0 (by kernel_rfl) h)
          clear hdep hsame hi hlate hfr hkeep
          exact .inl ⟨wanted_none rfl, showsO_move hsn rfl _ rfl e0⟩
        | 1, hi =>
          cases (show some _ = some o from hi)
          have e6 : f.tmps.getD 6 undef = .int .i64 (k : Int) := hsame.slot 6 (fun i o h => invB2_not 6 (by kernel_rfl) h)
          clear hdep hsame hi hlate hfr hkeep
          exact .inl ⟨wanted_none rfl, showsO_move hsn rfl _ rfl e6⟩
        | 2, hi =>
          cases (show some _ = some o from hi)
          have e0 : f.tmps.getD 0 undef = .pointer (some ⟨wb, 0, none⟩) := hsame.slot 0 (fun i o h => invB2_not 0 (by kernel_rfl) h)
          clear hdep hsame hi hlate hfr hkeep
          exact .inl ⟨wanted_none rfl, showsO_move hsn rfl _ rfl e0⟩
        | 3, hi =>
          cases (show some _ = some o from hi)
          have e5 : f.tmps.getD 5 undef = .int .i64 (i : Int) := hsame.slot 5 (fun i o h => invB2_not 5 (by kernel_rfl) h)
          clear hdep hsame hi hlate hfr hkeep
          exact .inl ⟨wanted_none rfl, showsO_move hsn rfl _ rfl e5⟩
        | 4, hi =>
          cases (show some _ = some o from hi)
          have e181 : (f.tmps.getD 181 undef) = .pointer (some ⟨wb, 0, none⟩) := depO (V := (VO28 D wb i k base W3.heap.size (D.B i) (D.E i) (D.l i) (D.cells.setIfInBounds k (.pointer (some ⟨bz, 0, none⟩))))) hdep 2 181 (by kernel_rfl) (by kernel_rfl)
          clear hdep hsame hi hlate hfr hkeep
          exact .inl ⟨wanted_none rfl, showsO_pure hsn rfl (.pointer (some ⟨wb, 0, none⟩)) (by simp only [execOp, Act.eval]; go_simp) rfl⟩
        | 5, hi =>
          cases (show some _ = some o from hi)
          have e183 : (f.tmps.getD 183 undef) = .pointer (some ⟨wb, 0, none⟩) := depO (V := (VO28 D wb i k base W3.heap.size (D.B i) (D.E i) (D.l i) (D.cells.setIfInBounds k (.pointer (some ⟨bz, 0, none⟩))))) hdep 4 183 (by kernel_rfl) (by kernel_rfl)
          clear hdep hsame hi hlate hfr hkeep
          exact .inl ⟨wanted_none rfl, showsO_pure hsn rfl (.pointer (some ⟨wb, 4, none⟩)) (by simp only [execOp, Act.eval]; go_simp) rfl⟩
        | 6, hi =>
          cases (show some _ = some o from hi)
          have e182 : (f.tmps.getD 182 undef) = .int .i64 (i : Int) := depO (V := (VO28 D wb i k base W3.heap.size (D.B i) (D.E i) (D.l i) (D.cells.setIfInBounds k (.pointer (some ⟨bz, 0, none⟩))))) hdep 3 182 (by kernel_rfl) (by kernel_rfl)
          have e184 : (f.tmps.getD 184 undef) = .pointer (some ⟨wb, 4, none⟩) := depO (V := (VO28 D wb i k base W3.heap.size (D.B i) (D.E i) (D.l i) (D.cells.setIfInBounds k (.pointer (some ⟨bz, 0, none⟩))))) hdep 5 184 (by kernel_rfl) (by kernel_rfl)
          clear hdep hsame hi hlate hfr hkeep
          have f2 := IL1.out; have f3 := IL2.out
          exact .inl ⟨wanted_none rfl, showsO_pure hsn rfl (.pointer (some ⟨wb, 4 + i, none⟩)) (by simp only [execOp, Act.eval]; go_simp) rfl⟩
        | 7, hi =>
          cases (show some _ = some o from hi)
          have e185 : (f.tmps.getD 185 undef) = .pointer (some ⟨wb, 4 + i, none⟩) := depO (V := (VO28 D wb i k base W3.heap.size (D.B i) (D.E i) (D.l i) (D.cells.setIfInBounds k (.pointer (some ⟨bz, 0, none⟩))))) hdep 6 185 (by kernel_rfl) (by kernel_rfl)
          clear hdep hsame hi hlate hfr hkeep
          have hbU := (hkeep8 12 (.inr (by kernel_rfl)) wb WBL.out (if_pos rfl)).trans XB.out
          have c := er_cellAt hbU (4 + i) _ CGi.out
          exact .inl ⟨wanted_none rfl, showsO_pure hsn rfl (.pointer (some ⟨(D.d i), 0, none⟩)) (by simp only [execOp, Act.eval]; go_simp) rfl⟩
        | 8, hi =>
          cases (show some _ = some o from hi)
          have e186 : (f.tmps.getD 186 undef) = .pointer (some ⟨(D.d i), 0, none⟩) := depO (V := (VO28 D wb i k base W3.heap.size (D.B i) (D.E i) (D.l i) (D.cells.setIfInBounds k (.pointer (some ⟨bz, 0, none⟩))))) hdep 7 186 (by kernel_rfl) (by kernel_rfl)
          clear hdep hsame hi hlate hfr hkeep
          have c := (CC.out u hb6).mono (fun e w1 ⟨b, t, h1, h2, h3⟩ => (⟨_, h1, ⟨b, t, rfl, h2⟩, h3⟩ : ∃ v, e = Ending.returned v ∧ (∃ b t, v = Value.pointer (some ⟨b, 0, none⟩) ∧ RmP u.heap.size w1 b (D.B i) (D.E i) (D.l i) t) ∧ Below u.heap.size u w1))
          exact .inl ⟨wanted_none rfl, showsO_call (R := fun v w' => ∃ b t, v = .pointer (some ⟨b, 0, none⟩) ∧ RmP u.heap.size w' b (D.B i) (D.E i) (D.l i) t) hsn rfl 23 #[.pointer (some ⟨(D.d i), 0, none⟩)] (by simp only [execOp, Act.eval]; go_simp) c (fun v w' ⟨b, t, e, h⟩ _ => ⟨b, e, t, h.mono (Nat.le_trans BS.out hsn.size), fun j hj => ⟨hsn.top j (h.ge j hj), Nat.le_trans (Nat.le_trans ZW.out hsn.size) (h.ge j hj)⟩⟩)⟩
        | 9, hi =>
          cases (show some _ = some o from hi)
          have e179 : (f.tmps.getD 179 undef) = .pointer (some ⟨wb, 0, none⟩) := depO (V := (VO28 D wb i k base W3.heap.size (D.B i) (D.E i) (D.l i) (D.cells.setIfInBounds k (.pointer (some ⟨bz, 0, none⟩))))) hdep 0 179 (by kernel_rfl) (by kernel_rfl)
          clear hdep hsame hi hlate hfr hkeep
          exact .inl ⟨wanted_none rfl, showsO_pure hsn rfl (.pointer (some ⟨wb, 0, none⟩)) (by simp only [execOp, Act.eval]; go_simp) rfl⟩
        | 10, hi =>
          cases (show some _ = some o from hi)
          have e188 : (f.tmps.getD 188 undef) = .pointer (some ⟨wb, 0, none⟩) := depO (V := (VO28 D wb i k base W3.heap.size (D.B i) (D.E i) (D.l i) (D.cells.setIfInBounds k (.pointer (some ⟨bz, 0, none⟩))))) hdep 9 188 (by kernel_rfl) (by kernel_rfl)
          clear hdep hsame hi hlate hfr hkeep
          exact .inl ⟨wanted_none rfl, showsO_pure hsn rfl (.pointer (some ⟨wb, 4, none⟩)) (by simp only [execOp, Act.eval]; go_simp) rfl⟩
        | 11, hi =>
          cases (show some _ = some o from hi)
          have e180 : (f.tmps.getD 180 undef) = .int .i64 (k : Int) := depO (V := (VO28 D wb i k base W3.heap.size (D.B i) (D.E i) (D.l i) (D.cells.setIfInBounds k (.pointer (some ⟨bz, 0, none⟩))))) hdep 1 180 (by kernel_rfl) (by kernel_rfl)
          have e189 : (f.tmps.getD 189 undef) = .pointer (some ⟨wb, 4, none⟩) := depO (V := (VO28 D wb i k base W3.heap.size (D.B i) (D.E i) (D.l i) (D.cells.setIfInBounds k (.pointer (some ⟨bz, 0, none⟩))))) hdep 10 189 (by kernel_rfl) (by kernel_rfl)
          clear hdep hsame hi hlate hfr hkeep
          have f2 := KL1.out; have f3 := KL2.out
          exact .inl ⟨wanted_none rfl, showsO_pure hsn rfl (.pointer (some ⟨wb, 4 + k, none⟩)) (by simp only [execOp, Act.eval]; go_simp) rfl⟩
        | 12, hi =>
          cases (show some _ = some o from hi)
          have e187 : PtC (fun b => NmL own u base W3.heap.size b (D.B i) (D.E i) (D.l i)) (f.tmps.getD 187 undef) := depO (V := (VO28 D wb i k base W3.heap.size (D.B i) (D.E i) (D.l i) (D.cells.setIfInBounds k (.pointer (some ⟨bz, 0, none⟩))))) hdep 8 187 (by kernel_rfl) (by kernel_rfl)
          have e190 : (f.tmps.getD 190 undef) = .pointer (some ⟨wb, 4 + k, none⟩) := depO (V := (VO28 D wb i k base W3.heap.size (D.B i) (D.E i) (D.l i) (D.cells.setIfInBounds k (.pointer (some ⟨bz, 0, none⟩))))) hdep 11 190 (by kernel_rfl) (by kernel_rfl)
          clear hdep hsame hi hlate hfr hkeep
          obtain ⟨b, e187, t, N187, N187b⟩ := e187
          have hbU := (hkeep8 12 (.inl rfl) wb WBL.out (if_pos rfl)).trans XB.out
          have hst := er_cellAt hbU (4 + k) _ CGk.out
          have hfr2 := frozenC hbU (4 + k)
          exact .inl ⟨wanted_none rfl, showsO_store_cell hsn hkeep8 rfl wb (4 + k) (D.cells.setIfInBounds k (.pointer (some ⟨bz, 0, none⟩))) 30 XB.out (if_pos rfl) (.pointer (some ⟨b, 0, none⟩)) (by simp only [execOp, Act.eval]; go_simp) (fun h => ⟨b, h, t, N187.kept (Keep.setCell u ⟨wb, 4 + k, none⟩ _) (fun j hj e => by have e : j = wb := e; have h3 := (N187b j hj).1; rw [e, hsn.owns wb WBL.out, if_pos rfl] at h3; cases h3), N187b⟩)⟩
        | n + 13, hi => exact absurd hi (by simp)
      · intro f W4 own hsame hsn hall
        have q179 : f.tmps.getD 179 undef = .pointer (some ⟨wb, 0, none⟩) := finO (V := (VO28 D wb i k base W3.heap.size (D.B i) (D.E i) (D.l i) (D.cells.setIfInBounds k (.pointer (some ⟨bz, 0, none⟩))))) hall 0 179 rfl
        have q180 : f.tmps.getD 180 undef = .int .i64 (k : Int) := finO (V := (VO28 D wb i k base W3.heap.size (D.B i) (D.E i) (D.l i) (D.cells.setIfInBounds k (.pointer (some ⟨bz, 0, none⟩))))) hall 1 180 rfl
        have q181 : f.tmps.getD 181 undef = .pointer (some ⟨wb, 0, none⟩) := finO (V := (VO28 D wb i k base W3.heap.size (D.B i) (D.E i) (D.l i) (D.cells.setIfInBounds k (.pointer (some ⟨bz, 0, none⟩))))) hall 2 181 rfl
        have q182 : f.tmps.getD 182 undef = .int .i64 (i : Int) := finO (V := (VO28 D wb i k base W3.heap.size (D.B i) (D.E i) (D.l i) (D.cells.setIfInBounds k (.pointer (some ⟨bz, 0, none⟩))))) hall 3 182 rfl
        have q183 : f.tmps.getD 183 undef = .pointer (some ⟨wb, 0, none⟩) := finO (V := (VO28 D wb i k base W3.heap.size (D.B i) (D.E i) (D.l i) (D.cells.setIfInBounds k (.pointer (some ⟨bz, 0, none⟩))))) hall 4 183 rfl
        have q184 : f.tmps.getD 184 undef = .pointer (some ⟨wb, 4, none⟩) := finO (V := (VO28 D wb i k base W3.heap.size (D.B i) (D.E i) (D.l i) (D.cells.setIfInBounds k (.pointer (some ⟨bz, 0, none⟩))))) hall 5 184 rfl
        have q185 : f.tmps.getD 185 undef = .pointer (some ⟨wb, 4 + i, none⟩) := finO (V := (VO28 D wb i k base W3.heap.size (D.B i) (D.E i) (D.l i) (D.cells.setIfInBounds k (.pointer (some ⟨bz, 0, none⟩))))) hall 6 185 rfl
        have q186 : f.tmps.getD 186 undef = .pointer (some ⟨(D.d i), 0, none⟩) := finO (V := (VO28 D wb i k base W3.heap.size (D.B i) (D.E i) (D.l i) (D.cells.setIfInBounds k (.pointer (some ⟨bz, 0, none⟩))))) hall 7 186 rfl
        obtain ⟨b187, q187, N187⟩ := finO (V := (VO28 D wb i k base W3.heap.size (D.B i) (D.E i) (D.l i) (D.cells.setIfInBounds k (.pointer (some ⟨bz, 0, none⟩))))) hall 8 187 rfl
        have q188 : f.tmps.getD 188 undef = .pointer (some ⟨wb, 0, none⟩) := finO (V := (VO28 D wb i k base W3.heap.size (D.B i) (D.E i) (D.l i) (D.cells.setIfInBounds k (.pointer (some ⟨bz, 0, none⟩))))) hall 9 188 rfl
        have q189 : f.tmps.getD 189 undef = .pointer (some ⟨wb, 4, none⟩) := finO (V := (VO28 D wb i k base W3.heap.size (D.B i) (D.E i) (D.l i) (D.cells.setIfInBounds k (.pointer (some ⟨bz, 0, none⟩))))) hall 10 189 rfl
        have q190 : f.tmps.getD 190 undef = .pointer (some ⟨wb, 4 + k, none⟩) := finO (V := (VO28 D wb i k base W3.heap.size (D.B i) (D.E i) (D.l i) (D.cells.setIfInBounds k (.pointer (some ⟨bz, 0, none⟩))))) hall 11 190 rfl
        obtain ⟨dz, ⟨oz, mz⟩, NZ⟩ := finN (V := (VO28 D wb i k base W3.heap.size (D.B i) (D.E i) (D.l i) (D.cells.setIfInBounds k (.pointer (some ⟨bz, 0, none⟩))))) hall 12 rfl
        obtain rfl := frame_eq hsame [(179, .pointer (some ⟨wb, 0, none⟩)), (180, .int .i64 (k : Int)), (181, .pointer (some ⟨wb, 0, none⟩)), (182, .int .i64 (i : Int)), (183, .pointer (some ⟨wb, 0, none⟩)), (184, .pointer (some ⟨wb, 4, none⟩)), (185, .pointer (some ⟨wb, 4 + i, none⟩)), (186, .pointer (some ⟨(D.d i), 0, none⟩)), (187, (.pointer (some ⟨b187, 0, none⟩))), (188, .pointer (some ⟨wb, 0, none⟩)), (189, .pointer (some ⟨wb, 4, none⟩)), (190, .pointer (some ⟨wb, 4 + k, none⟩))] (by kernel_rfl) ⟨q179, q180, q181, q182, q183, q184, q185, q186, q187, q188, q189, q190, trivial⟩
        clear hall hsame q179 q180 q181 q182 q183 q184 q185 q186 q187 q188 q189 q190
        simp only [List.foldl, List.setIfInBounds_toArray, List.set_cons_succ, List.set_cons_zero]
        have kp4 := hsn.keepOne
        obtain ⟨t2, NM1, NM2⟩ := NZ
        have hp := HW.out.put KL.out (w' := W4) (r' := bz) (d' := dz) (B' := D.B i) (E' := D.E i) (l' := D.l i) (s' := tz) (t' := t2) ((KP3.out.trans kp4 (fun _ _ h => h)).mono (fun j _ e => .inl e)) (by rw [← D.cells_put KL.out]; exact mz)
          (NR4.out.1.kept kp4 (fun j hj e => (NR4.out.2 j hj).1 e)) NM1 (HW.out.st i IL.out) (HW.out.e64 i IL.out) (fun j hj => .inr (NR4.out.2 j hj).2) (fun j hj => .inr (Nat.le_trans KP3.out.size (NM2 j hj).2))
          (fun j h1 h2 => by
            have h4 := NR4.out.1.lt j h1
            have h5 := (NM2 j h2).2
            omega)
        have FIN : Bx (∃ D', CW base W4 wb D' ∧ Keep (D.F wb) w W4 ∧ ∀ k, D'.F wb k → D.F wb k ∨ w.heap.size ≤ k) := ⟨_, hp.1, (Keep.of_below KB.out (D.F wb)).trans (KP3.out.trans kp4 (fun _ _ h => h)) (fun k _ e => .inl e), fun k hk => (hp.2 k hk).imp id (fun h => Nat.le_trans KB.out.size h)⟩
        have c7 := hp.1.cR KL.out
        rw [show (D.put k bz dz (D.B i) (D.E i) (D.l i) tz t2).r k = bz from updC_at _ _ _] at c7
        have f2 := KL1.out; have f3 := KL2.out
        clear hsn kp4 hp mz oz NM1 NM2 N187
        clear own
        go_wp2_with fail
        go_ret
        exact ⟨rfl, FIN.out⟩
  obtain ⟨x, ev, fc, fa, hx, hkind, hR, hM⟩ := root_both9 A base (D.r i) (D.d i) (D.B i) (D.E i) (D.l i) (D.sv i) (D.dv i) (HW.out.st i IL.out) ((HW.out.ra i IL.out).h32)
  have B2 := Bx.mk (KB.out.mono BA.out)
  have C1 := Bx.mk (hR w2 (HW.out.ra i IL.out) (HE.out w2 B2.out).er (HE.out w2 B2.out).ts)
  have HM := Bx.mk hM; have XL := Bx.mk hx; have KD := Bx.mk hkind
  have cR := HW.out.cR IL.out
  have f2 : ¬ (4 : Int) ≤ (i : Int) := by have := IL.out; omega
  have f3 : (i : Int) < 4 := by have := IL.out; omega
  have F2 := Bx.mk f2; have F3 := Bx.mk f3
  have BS2 := Bx.mk (Nat.le_trans BA.out KB.out.size)
  clear hR hM hx hkind
  go_wp2_with fail
  refine C1.out.mono ?_
  rintro e w3 ⟨rfl, hb⟩
  have W3 := Bx.mk (HW.out.below hb); have B3 := Bx.mk (B2.out.trans (hb.mono BS2.out)); have K3 := Bx.mk (KB.out.trans (hb.mono KB.out.size))
  have S3 := Bx.mk hb.size
  clear hb C1 cR
  unfold hv
  go_upto_region 31 with (guard_target =~ wpList _ _ _ (⟨none, _, _, _, _, _⟩ :: _) _ _; refine wpList_store_row rfl 81 (.tmp 13) (.tmp 206) rfl w3.heap.size (ocells x) rfl rfl _ _ (heap_alloc_new w3 _) (hszL XL.out) (by rw [ocells_size, XL.out]; rfl) (ocells_one _) ?_)
  change Code.wp _ _ _ _ ((w3.alloc (.cells zeros32 81)).setRow w3.heap.size (ocells x))
  have k4 : Below w3.heap.size w3 ((w3.alloc (.cells zeros32 81)).setRow w3.heap.size (ocells x)) := below_setRow (er_al (Below.refl _ _) _) (Nat.le_refl _) _
  have x4 := setRow_heap _ _ _ (ocells x) _ _ (heap_alloc_new w3 (.cells zeros32 81))
  generalize (w3.alloc (.cells zeros32 81)).setRow w3.heap.size (ocells x) = w4 at k4 x4 ⊢
  obtain ⟨g, hg⟩ : ∃ g, g = w3.heap.size := ⟨_, rfl⟩
  rw [← hg] at x4 ⊢
  have W4 := Bx.mk (W3.out.below k4); have K4 := Bx.mk (K3.out.trans (k4.mono (Nat.le_trans KB.out.size S3.out))); have X4 := Bx.mk x4
  have C5 := Bx.mk (HM.out w4 (W4.out.rm i IL.out))
  have cM := W4.out.cM IL.out
  have f2 := F2.out; have f3 := F3.out
  clear k4 x4 hg
  go_wp2_with fail
  refine C5.out.mono ?_
  rintro e w5 ⟨rfl, hb⟩
  have W5 := Bx.mk (W4.out.below hb); have K5 := Bx.mk (K4.out.trans (hb.mono K4.out.size)); have X5 := Bx.mk ((hb.block _ (Array.getElem?_eq_some_iff.1 X4.out).1).trans X4.out)
  clear hb C5 cM
  have y1 := heap_alloc_new w5 (.cells zeros32 81)
  have y2 := ((er_al (Below.refl (w5.alloc (.cells zeros32 81)).heap.size _) (.cells #[.int .i64 0, .int .i64 0] 75)).block _ (Array.getElem?_eq_some_iff.1 y1).1).trans y1
  have y3 := heap_alloc_new (w5.alloc (.cells zeros32 81)) (.cells #[.int .i64 0, .int .i64 0] 75)
  rw [show (w5.alloc (.cells zeros32 81)).heap.size = w5.heap.size + 1 by simp] at y3
  have Y2 := Bx.mk y2; have Y3 := Bx.mk ((setRow_other _ w5.heap.size (w5.heap.size + 1) (ocells x) (by omega)).trans y3)
  clear y1 y2 y3
  unfold hv
  go_upto_region 32 with (first
    | (guard_target =~ wpList _ _ _ (⟨none, _, _, _, _, _⟩ :: _) _ _; refine wpList_store_row rfl 81 (.tmp 15) (.tmp 216) rfl w5.heap.size (ocells x) rfl rfl _ _ Y2.out (hszL XL.out) (by rw [ocells_size, XL.out]; rfl) (ocells_one _) ?_)
    | (guard_target =~ wpList _ _ _ (⟨none, _, _, _, _, _⟩ :: _) _ _; refine wpList_store_row rfl 75 (.tmp 16) (.tmp 217) rfl (w5.heap.size + 1) #[.int .i64 fc, .int .i64 fa] rfl rfl _ _ Y3.out (by kernel_rfl) rfl (by simp [Value.oneCell']) ?_))
  have k6 := below_setRow (below_setRow (er_al (er_al (Below.refl w5.heap.size w5) (.cells zeros32 81)) (.cells #[.int .i64 0, .int .i64 0] 75)) (Nat.le_refl _) (ocells x)) (show w5.heap.size ≤ w5.heap.size + 1 by omega) #[.int .i64 fc, .int .i64 fa]
  have y4 := (setRow_other _ (w5.heap.size + 1) w5.heap.size #[.int .i64 fc, .int .i64 fa] (by omega)).trans (setRow_heap _ _ _ (ocells x) _ _ Y2.out)
  have y5 := setRow_heap _ _ _ #[.int .i64 fc, .int .i64 fa] _ _ Y3.out
  change Code.wp _ _ _ _ ((((w5.alloc (.cells zeros32 81)).alloc (.cells #[.int .i64 0, .int .i64 0] 75)).setRow w5.heap.size (ocells x)).setRow (w5.heap.size + 1) #[.int .i64 fc, .int .i64 fa])
  generalize ((((w5.alloc (.cells zeros32 81)).alloc (.cells #[.int .i64 0, .int .i64 0] 75)).setRow w5.heap.size (ocells x)).setRow (w5.heap.size + 1) #[.int .i64 fc, .int .i64 fa]) = w6 at k6 y4 y5 ⊢
  have y3 := (k6.block g (Array.getElem?_eq_some_iff.1 X5.out).1).trans X5.out
  have W6 := Bx.mk (W5.out.below k6); have K6 := Bx.mk (K5.out.trans (k6.mono K5.out.size))
  obtain ⟨m1, hm1⟩ : ∃ m, m = w5.heap.size := ⟨_, rfl⟩
  obtain ⟨m2, hm2⟩ : ∃ m, m = w5.heap.size + 1 := ⟨_, rfl⟩
  rw [← hm1] at y4
  rw [← hm2] at y5
  have G0 := Bx.mk y3; have G1 := Bx.mk y4; have G2 := Bx.mk y5
  have heq : ∀ u : World, (binOp .eql 81 (.agg (ocells x)) (.agg (ocells x))).run Tryz.prog u = .ok (.bool true) u := fun u => by
    have h1 := hv_eq u x x XL.out XL.out
    rw [beq_self_eq_true] at h1
    exact h1
  have e0 := er_cellAt y5 0 _ rfl; have e1 := er_cellAt y5 1 _ rfl
  have SM := Bx.mk (same_kd9 A 4 (by decide) KD.out w6 (HE.out w6 (K6.out.mono BA.out)).er)
  rw [← hm2, ← hm1]
  clear k6 y3 y4 y5 Y2 Y3 hm1 hm2
  go_wp2_with (first
    | (guard_target =~ wpList _ _ _ (⟨some 218, _, _, _, _, _⟩ :: _) _ _; refine wpList_load_row_w (by simp [Region.wanted, yielded]) 81 (.tmp 13) rfl g rfl _ _ _ _ G0.out underH rfl (hszL XL.out) ?_)
    | (guard_target =~ wpList _ _ _ (⟨some 219, _, _, _, _, _⟩ :: _) _ _; refine wpList_load_row_w (by simp [Region.wanted, yielded]) 81 (.tmp 15) rfl m1 rfl _ _ _ _ G1.out underH rfl (hszL XL.out) ?_))
  refine SM.out.mono ?_
  rintro e w7 ⟨rfl, hb⟩
  have W7 := Bx.mk (W6.out.below hb); have K7 := Bx.mk (K6.out.trans (hb.mono K6.out.size))
  clear hb SM e0 e1
  go_wp2_with fail
  go_ret
  exact ⟨rfl, D, W7.out, Keep.of_below K7.out (D.F wb), fun k hk => .inl hk⟩
end Go.Proofs.YtgbafjmklefoiaaGreatDoor
