/- The digest as one predicate (address, bytes taken, blocks), and the contracts of New, Write, Sum, Len, Copy in its words. -/
import Derived.Test.YtohifpomdanmkaaGreatDoorG2
namespace Go.Proofs.YtohifpomdanmkaaGreatDoor
set_option maxRecDepth 100000
open Go.RowKit
/-- a digest at block p that has taken m; S are its blocks -/
structure DigP (base : Nat) (w : World) (p : Nat) (m : List UInt8) (S : Nat → Prop) : Prop where
  ex : ∃ H rv, Dig base w p H rv m ∧ ∀ k, S k ↔ DigS p H rv k
theorem DigN.lt {base : Nat} {w : World} {p H : Nat} {rv : Value} {m : List UInt8} {N : Nat} (h : DigN base w p H rv m N) (k : Nat) (hk : DigS p H rv k) : k < w.heap.size := by
  rcases hk with rfl | rfl | hk
  · exact (Array.getElem?_eq_some_iff.1 h.hp).1
  · exact (Array.getElem?_eq_some_iff.1 h.hH).1
  · rcases h.hr.2 with ⟨rfl, _⟩ | ⟨g, cap, cur, rfl, _, hg, _⟩
    · cases hk
    · obtain rfl : g = k := by simpa [Value.ownBlock] using hk
      exact (Array.getElem?_eq_some_iff.1 hg).1
theorem DigP.lt {base : Nat} {w : World} {p : Nat} {m : List UInt8} {S : Nat → Prop} (h : DigP base w p m S) (k : Nat) (hk : S k) : k < w.heap.size := by
  obtain ⟨H, rv, hd, hs⟩ := h.ex
  exact DigN.lt hd k ((hs k).1 hk)
theorem DigP.ge {base : Nat} {w : World} {p : Nat} {m : List UInt8} {S : Nat → Prop} (h : DigP base w p m S) (k : Nat) (hk : S k) : base ≤ k := by
  obtain ⟨H, rv, hd, hs⟩ := h.ex
  exact DigN.ge hd k ((hs k).1 hk)
theorem DigP.self {base : Nat} {w : World} {p : Nat} {m : List UInt8} {S : Nat → Prop} (h : DigP base w p m S) : S p := by
  obtain ⟨H, rv, hd, hs⟩ := h.ex
  exact (hs p).2 (.inl rfl)
theorem DigP.kept {base : Nat} {w w' : World} {p : Nat} {m : List UInt8} {S T : Nat → Prop} (h : DigP base w p m S) (k : Keep T w w') (hd : ∀ j, S j → ¬ T j) : DigP base w' p m S := by
  obtain ⟨H, rv, hd', hs⟩ := h.ex
  exact ⟨H, rv, DigN.kept hd' k (hd _ ((hs _).2 (.inl rfl))) (hd _ ((hs _).2 (.inr (.inl rfl)))) (fun j hj => hd _ ((hs _).2 (.inr (.inr hj)))), hs⟩
theorem DigP.below {base : Nat} {w w' : World} {p : Nat} {m : List UInt8} {S : Nat → Prop} (h : DigP base w p m S) (k : Below w.heap.size w w') : DigP base w' p m S :=
  h.kept (Keep.of_below k (fun _ => False)) (fun _ _ h => h)
theorem DigP.mono {base base' : Nat} {w : World} {p : Nat} {m : List UInt8} {S : Nat → Prop} (h : DigP base w p m S) (hb : base' ≤ base) : DigP base' w p m S := by
  obtain ⟨H, rv, hd, hs⟩ := h.ex
  exact ⟨H, rv, ⟨hd.hp, hd.hH, ownsRow_mono hd.hr hb, Nat.le_trans hb hd.bp, Nat.le_trans hb hd.bH⟩, hs⟩
theorem newP (w : World) : Calls Tryz.prog 72 #[] w fun e w' => ∃ p S, e = .returned (.pointer (some ⟨p, 0, none⟩)) ∧ DigP w.heap.size w' p [] S ∧ Below w.heap.size w w' :=
  (new_any w).mono fun e w' ⟨v, p, H, rv, he, hN⟩ => ⟨p, DigS p H rv, he.trans (by rw [hN.val]), ⟨H, rv, hN.dig, fun _ => Iff.rfl⟩, hN.below⟩
theorem copyP (base : Nat) (w : World) (p : Nat) (m : List UInt8) (S : Nat → Prop) (h : DigP base w p m S) :
    Calls Tryz.prog 112 #[.pointer (some ⟨p, 0, none⟩)] w fun e w' => ∃ p' S', e = .returned (.pointer (some ⟨p', 0, none⟩)) ∧ DigP w.heap.size w' p' m S' ∧ Below w.heap.size w w' := by
  obtain ⟨H, rv, hd, _⟩ := h.ex
  exact (copy_any base w p H rv m hd).mono fun e w' ⟨v, p, H, rv, he, hN⟩ => ⟨p, DigS p H rv, he.trans (by rw [hN.val]), ⟨H, rv, hN.dig, fun _ => Iff.rfl⟩, hN.below⟩
theorem dsumP (base : Nat) (w : World) (p : Nat) (m : List UInt8) (S : Nat → Prop) (h : DigP base w p m S) (hT : Tab w) (hgs : 1 < w.heap.size) (hm : m.length < 576460752303423488) :
    Calls Tryz.prog 74 #[.pointer (some ⟨p, 0, none⟩)] w fun e w' => e = .returned (hv (sha m)) ∧ Below w.heap.size w w' := by
  obtain ⟨H, rv, hd, _⟩ := h.ex
  exact dsum_any base w p H rv m hd hT hgs hm
/-- what Write leaves -/
structure WroteP (base : Nat) (w w' : World) (p : Nat) (m : List UInt8) (S : Nat → Prop) : Prop where
  ex : ∃ S', DigP base w' p m S' ∧ ∀ k, S' k → S k ∨ w.heap.size ≤ k
  keep : Keep S w w'
theorem writeP (base : Nat) (w : World) (p : Nat) (bv : Value) (m l : List UInt8) (S : Nat → Prop) (h : DigP base w p m S) (hT : Tab w) (hg : 1 < base) (hS : Src w bv l)
    (hne : ∀ k, bv.ownBlock = some k → ¬ S k) (hlen : m.length + l.length < 1152921504606846976) (hbase : base ≤ w.heap.size) :
    Calls Tryz.prog 73 #[.pointer (some ⟨p, 0, none⟩), bv] w fun e w' => e = .returned (.tuple #[]) ∧ WroteP base w w' p (m ++ l) S := by
  obtain ⟨H, rv, hd, hs⟩ := h.ex
  refine (write_any base w p H rv bv m l hd hT hg hS (fun k hk => ⟨fun e => hne k hk ((hs k).2 (.inl e)), fun e => hne k hk ((hs k).2 (.inr (.inl e))), fun e => hne k hk ((hs k).2 (.inr (.inr e)))⟩) hlen hbase).mono ?_
  rintro e w' ⟨he, rv', hd', hk, ho⟩
  refine ⟨he, ⟨DigS p H rv', ⟨H, rv', hd', fun _ => Iff.rfl⟩, fun k hk' => ?_⟩, hk.mono fun k _ h => (hs k).2 h⟩
  rcases hk' with rfl | rfl | hk'
  · exact .inl ((hs _).2 (.inl rfl))
  · exact .inl ((hs _).2 (.inr (.inl rfl)))
  · rcases ho with ho | ho
    · exact .inl ((hs k).2 (.inr (.inr (by rw [← ho]; exact hk'))))
    · exact .inr (ho k hk')
end Go.Proofs.YtohifpomdanmkaaGreatDoor
