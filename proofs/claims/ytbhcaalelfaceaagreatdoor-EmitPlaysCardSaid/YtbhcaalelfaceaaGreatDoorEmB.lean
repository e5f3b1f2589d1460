/- emit.Builder: Add at the limit; Hashes, told apart. -/
import Derived.Test.YtbhcaalelfaceaaGreatDoorEmD
import Derived.Test.YtbhcaalelfaceaaGreatDoorEmR
import Derived.Test.YtbhcaalelfaceaaGreatDoorG3
namespace Go.Proofs.YtbhcaalelfaceaaGreatDoor
set_option maxRecDepth 100000
open Go.RowKit
set_option maxHeartbeats 800000 in
/-- Add of a builder that has all the leaves that may be -/
theorem add_limit (A : Nat → Addr) (base : Nat) (w : World) (b : Nat) (ls : List (List UInt8)) (s : Value) (hB : BuP base w b 9223372036854775808 ls s) (p : List UInt8) (hE : Errs w A) :
    Calls Tryz.prog 70 #[.pointer (some ⟨b, 0, none⟩), hv p] w fun e w' => e = .returned (.tuple #[.slice none 0 0, .iface 267 (.pointer (some (A 3)))]) ∧ Below w.heap.size w w' := by
  have kb := er_al (Below.refl w.heap.size w) (.cells (ocells p) 66)
  have gE : (w.alloc (.cells (ocells p) 66)).cell? ⟨3, 0, none⟩ = some (.iface 267 (.pointer (some (A 3)))) := (hE.below kb).glob 3 (by decide)
  have c0 := cell_at (hB.below kb).hb 0 _ rfl
  have c1 := cell_at (hB.below kb).hb 1 _ rfl
  clear hB hE
  unfold hv
  go_enter Tryz.func70, Tryz.ntmps70
  go_upto_region 1 with (fail)
  change Code.wp _ _ _ _ (w.alloc (.cells (ocells p) 66))
  generalize w.alloc (.cells (ocells p) 66) = W at kb gE c0 c1 ⊢
  go_wp2_with fail
  go_quiet (fail)
  go_wp2_with fail
  go_ret2
  exact ⟨rfl, below_drewN kb _⟩
theorem upB_lastK {l : List (List UInt8)} {K : Nat} (h : K + 1 = l.length) : upB (l.drop K) = l[K]'(by omega) := by
  rw [List.drop_eq_getElem_cons (by omega), List.drop_of_length_le (by omega)]; rfl
theorem bhss_any (base : Nat) (w : World) (b n : Nat) (ls : List (List UInt8)) (s : Value) (l : Nat) (hl : l = ls.length) (h : BuP base w b n ls s) (hm : l ≤ 1099511627776) (B0 : Nat) (hB0 : B0 ≤ w.heap.size) :
    Calls Tryz.prog 17 #[.pointer (some ⟨b, 0, none⟩)] w fun e w' => ∃ v, e = .returned v ∧ (w'.ownsRow B0 66 32 v l (hcells ls) ∧ ∀ k, v.ownBlock = some k → w.heap.size ≤ k) ∧ Below w.heap.size w w' := by
  subst hl
  exact (bhashes_any base w b n ls s h hm).mono fun e w' ⟨v, h1, h2, h3⟩ => ⟨v, h1, ⟨ownsRow_mono h2 hB0, fun k hk => ownsRow_fresh h2 k hk⟩, h3⟩
end Go.Proofs.YtbhcaalelfaceaaGreatDoor
