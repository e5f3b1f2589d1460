/- Regions with one box that is written over; rows that a call made. -/
import Derived.Test.YtdepmjgibenejaaDoorSeq8
namespace Go.Proofs.YtdepmjgibenejaaDoor
open Go.RowKit
theorem Since.keepOne {g J : Nat} {own : Nat → Option Nat} {w0 w : World} (h : Since (fun k => if k = g then some J else none) w0 own w) : Keep (fun k => k = g) w0 w :=
  ⟨h.os, h.tape, h.output, h.size, fun k hk hn => h.keep k hk (if_neg hn)⟩
/-- a row of its own that a call made, which nothing writes -/
def RowN (own : Nat → Option Nat) (w : World) (v : Value) (base : Nat) (e : TypeId) (size n : Nat) (xs : List Value) : Prop :=
  w.ownsRow base e size v n xs ∧ ∀ k, v.ownBlock = some k → own k = none
theorem RowN.stable {mk own own' : Nat → Option Nat} {w w' : World} {i base : Nat} {e : TypeId} {size : Nat} {v : Value} {n : Nat} {xs : List Value} (h : RowN own w v base e size n xs) (r : Rel mk i own w own' w') : RowN own' w' v base e size n xs := by
  obtain ⟨h1, h2⟩ := h
  exact ⟨ownsRow_keep' h1 fun g hg => r.keep g (ownsRow_lt h1 g hg) (by rw [h2 g hg]; simp), fun k hk => (r.owns k (ownsRow_lt h1 k hk)).trans (h2 k hk)⟩
end Go.Proofs.YtdepmjgibenejaaDoor
