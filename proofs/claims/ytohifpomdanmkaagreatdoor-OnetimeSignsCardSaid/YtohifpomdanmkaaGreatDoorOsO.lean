/- A filled slice of 67 hashes as a row of one's own. -/
import Derived.Test.YtohifpomdanmkaaGreatDoorOrf
import Derived.Test.YtohifpomdanmkaaGreatDoorBs1
import Derived.Test.YtohifpomdanmkaaGreatDoorRg
namespace Go.Proofs.YtohifpomdanmkaaGreatDoor
set_option maxRecDepth 100000
open Go.RowKit
theorem bcells_len (l : List UInt8) : (bcells l).length = l.length := by simp [bcells]
theorem SlP.own {w : World} {g base : Nat} {ls : List (List UInt8)} (h : SlP w g ls) (hl : ls.length = 67) (hb : base ≤ g) : w.ownsRow base 23 32 (.slice (some ⟨g, 0, none⟩) 67 67) 67 (hcells ls) := by
  obtain ⟨cur, h1, h2⟩ := h.blk
  have h32 : ∀ x ∈ ls, (bcells x).length = 32 := fun x hx => by rw [bcells_len]; exact h.len x hx
  have hlen : (hcells ls).length = 67 * 32 := by unfold hcells; rw [flat_len bcells 32 ls h32, hl]
  refine RowG.own (cur := cur) ⟨h1, hb, Nat.le_refl _, by unfold maxLen; decide, h2, ?_, hlen⟩
  refine List.ext_getElem? fun i => ?_
  rw [List.getElem?_take]
  by_cases hi : i < 67 * 32
  · rw [if_pos hi, Array.getElem?_toList]
    have e : i = i / 32 * 32 + i % 32 := by omega
    have hj : i / 32 < ls.length := by omega
    have ho : i % 32 < 32 := by omega
    have hg : (hcells ls)[i]? = (bcells ls[i / 32])[i % 32]? := by
      have hf := flat_get bcells 32 ls (i / 32) (i % 32) hj h32 ho
      rw [← e] at hf
      exact hf
    rw [hg]
    have hlt : i % 32 < (bcells ls[i / 32]).length := by rw [h32 _ (List.getElem_mem hj)]; exact ho
    rw [List.getElem?_eq_getElem hlt]
    have hc := h.at' (i / 32) hj (i % 32) _ (List.getElem?_eq_getElem hlt)
    rw [← e] at hc
    have hb2 : cur[i]? = some cur[i] := Array.getElem?_eq_getElem (by rw [h2]; exact hi)
    have hc2 := er_cellAt h1 i _ hb2
    rw [hc2] at hc
    rw [hb2, Option.some.inj hc]
  · rw [if_neg hi, List.getElem?_eq_none (by rw [hlen]; omega)]
end Go.Proofs.YtohifpomdanmkaaGreatDoor
