/- Three builders that have nothing to do with one another, and a box: what EmitGoes keeps. -/
import Derived.Test.YtbhcaalelfaceaaDoorEmH
import Derived.Test.YtbhcaalelfaceaaDoorEmG
import Derived.Test.YtbhcaalelfaceaaDoorEmI
import Derived.Test.YtbhcaalelfaceaaDoorRowN
import Derived.Test.YtbhcaalelfaceaaDoorBey
namespace Go.Proofs.YtbhcaalelfaceaaDoor
set_option maxRecDepth 100000
open Go.RowKit
structure ThreeB (base : Nat) (w : World) (a b c na nb nc : Nat) (la lb lc : List (List UInt8)) (sa sb sc : Value) (g : Nat) (R : List UInt8) : Prop where
  A : BuP base w a na la sa
  B : BuP base w b nb lb sb
  C : BuP base w c nc lc sc
  ab : ∀ k, BuS a sa k → ¬ BuS b sb k
  ca : ∀ k, BuS c sc k → ¬ BuS a sa k
  cb : ∀ k, BuS c sc k → ¬ BuS b sb k
  G : w.heap[g]? = some (.cells (ocells R) 33 (0, 0))
  ga : ¬ BuS a sa g
  gb : ¬ BuS b sb g
  le : base ≤ w.heap.size
theorem ThreeB.below {base : Nat} {w w' : World} {a b c na nb nc : Nat} {la lb lc : List (List UInt8)} {sa sb sc : Value} {g : Nat} {R : List UInt8} (h : ThreeB base w a b c na nb nc la lb lc sa sb sc g R) (k : Below w.heap.size w w') : ThreeB base w' a b c na nb nc la lb lc sa sb sc g R :=
  ⟨h.A.below k, h.B.below k, h.C.below k, h.ab, h.ca, h.cb, (k.block _ (Array.getElem?_eq_some_iff.1 h.G).1).trans h.G, h.ga, h.gb, Nat.le_trans h.le k.size⟩
/-- the builder's blocks behind an Add are its own ones, or new -/
theorem bus_new {base b : Nat} {s s' : Value} (hs : ∀ k, s'.ownBlock = some k → s.ownBlock = some k ∨ base ≤ k) (k : Nat) (h : BuS b s' k) : BuS b s k ∨ base ≤ k := by
  rcases h with h | h
  · exact .inl (.inl h)
  · rcases hs k h with h | h
    · exact .inl (.inr h)
    · exact .inr h
theorem ThreeB.addA {base : Nat} {w w' : World} {a b c na nb nc : Nat} {la lb lc : List (List UInt8)} {sa sb sc : Value} {g : Nat} {R : List UInt8} (h : ThreeB base w a b c na nb nc la lb lc sa sb sc g R) {x : List UInt8} {v : Value} (r : AddR w w' base a na la x sa v) :
    ∃ sa', ThreeB base w' a b c (na + 1) nb nc (lsB na la x) lb lc sa' sb sc g R ∧ Below base w w' := by
  obtain ⟨_, hk, sa', hA, hs⟩ := r
  refine ⟨sa', ⟨hA, h.B.kept hk fun j hj ha => h.ab j ha hj, h.C.kept hk fun j hj => h.ca j hj, fun k hk2 hb => ?_, fun k hc hk2 => ?_, h.cb, (hk.block _ (Array.getElem?_eq_some_iff.1 h.G).1 h.ga).trans h.G, fun hk2 => ?_, h.gb, Nat.le_trans h.le hk.size⟩, h.A.below0 hk h.le⟩
  · rcases bus_new hs k hk2 with h1 | h1
    · exact h.ab k h1 hb
    · have := h.B.lt k hb; omega
  · rcases bus_new hs k hk2 with h1 | h1
    · exact h.ca k hc h1
    · have := h.C.lt k hc; omega
  · rcases bus_new hs g hk2 with h1 | h1
    · exact h.ga h1
    · have := (Array.getElem?_eq_some_iff.1 h.G).1; omega
theorem ThreeB.addB {base : Nat} {w w' : World} {a b c na nb nc : Nat} {la lb lc : List (List UInt8)} {sa sb sc : Value} {g : Nat} {R : List UInt8} (h : ThreeB base w a b c na nb nc la lb lc sa sb sc g R) {x : List UInt8} {v : Value} (r : AddR w w' base b nb lb x sb v) :
    ∃ sb', ThreeB base w' a b c na (nb + 1) nc la (lsB nb lb x) lc sa sb' sc g R ∧ Below base w w' := by
  obtain ⟨_, hk, sb', hB, hs⟩ := r
  refine ⟨sb', ⟨h.A.kept hk fun j hj hb => h.ab j hj hb, hB, h.C.kept hk fun j hj => h.cb j hj, fun k ha hk2 => ?_, h.ca, fun k hc hk2 => ?_, (hk.block _ (Array.getElem?_eq_some_iff.1 h.G).1 h.gb).trans h.G, h.ga, fun hk2 => ?_, Nat.le_trans h.le hk.size⟩, h.B.below0 hk h.le⟩
  · rcases bus_new hs k hk2 with h1 | h1
    · exact h.ab k ha h1
    · have := h.A.lt k ha; omega
  · rcases bus_new hs k hk2 with h1 | h1
    · exact h.cb k hc h1
    · have := h.C.lt k hc; omega
  · rcases bus_new hs g hk2 with h1 | h1
    · exact h.gb h1
    · have := (Array.getElem?_eq_some_iff.1 h.G).1; omega
theorem ints_two (w : World) (k l n : Nat) (hn : n = w.heap.size) : Ints (w.alloc (.cells #[.int .i64 (k : Int), .int .i64 (l : Int)] 3)) (.slice (some ⟨n, 0, none⟩) 2 2) [k, l] := by
  subst hn
  refine ⟨_, 2, rfl, Nat.le_refl _, by simp [maxLen], fun _ => ⟨w.heap.size, 0, rfl, by simp, fun i hi => ?_⟩⟩
  match i, hi with
  | 0, _ => rw [World.cell?_alloc_at _ _ _ _ rfl]; rfl
  | 1, _ => rw [World.cell?_alloc_at _ _ _ _ rfl]; rfl
theorem load_ok {A : Nat → Addr} {base : Nat} {w' : World} {e : Ending} {n : Nat} {hs : List (List UInt8)} (h : LoadP A base w' e n hs) (hn : n ≤ 9223372036854775808) (hl : hs.length = pcnt n) : ∃ b s, e = .returned (.tuple #[.pointer (some ⟨b, 0, none⟩), .nilIface]) ∧ BuP base w' b n hs s := by
  unfold LoadP at h
  rwa [if_neg (by omega), if_neg (fun h => h hl)] at h
end Go.Proofs.YtbhcaalelfaceaaDoor
