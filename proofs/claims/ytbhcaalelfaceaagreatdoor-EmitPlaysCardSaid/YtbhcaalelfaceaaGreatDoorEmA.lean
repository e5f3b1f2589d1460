/- emit.Builder in memory; New, Size, Hashes. -/
import Derived.Test.YtbhcaalelfaceaaGreatDoorVt
import Derived.Test.YtbhcaalelfaceaaGreatDoorBs1
import Derived.Test.YtbhcaalelfaceaaGreatDoorOwn4
namespace Go.Proofs.YtbhcaalelfaceaaGreatDoor
set_option maxRecDepth 100000
open Go.RowKit
/-- a builder in block b: so many leaves, the hashes of its whole trees in a row of its own -/
structure BuP (base : Nat) (w : World) (b n : Nat) (ls : List (List UInt8)) (s : Value) : Prop where
  hb : w.heap[b]? = some (.cells #[.bool true, .int .u64 (n : Int), s] 60 (0, 0))
  bb : base ≤ b
  own : w.ownsRow base 66 32 s ls.length (hcells ls)
  h32 : ∀ x ∈ ls, x.length = 32
/-- its blocks -/
def BuS (b : Nat) (s : Value) (k : Nat) : Prop := k = b ∨ s.ownBlock = some k
theorem BuP.lt {base : Nat} {w : World} {b n : Nat} {ls : List (List UInt8)} {s : Value} (h : BuP base w b n ls s) (k : Nat) (hk : BuS b s k) : k < w.heap.size := by
  rcases hk with rfl | hk
  · exact (Array.getElem?_eq_some_iff.1 h.hb).1
  · exact ownsRow_lt h.own k hk
theorem BuP.ge {base : Nat} {w : World} {b n : Nat} {ls : List (List UInt8)} {s : Value} (h : BuP base w b n ls s) (k : Nat) (hk : BuS b s k) : base ≤ k := by
  rcases hk with rfl | hk
  · exact h.bb
  · exact ownsRow_fresh h.own k hk
theorem BuP.ne {base : Nat} {w : World} {b n : Nat} {ls : List (List UInt8)} {s : Value} (h : BuP base w b n ls s) (k : Nat) (hk : s.ownBlock = some k) : k ≠ b := by
  rcases id h.own.2 with ⟨rfl, _⟩ | ⟨g, cap, cur, rfl, _, hg, _⟩
  · cases hk
  · obtain rfl : g = k := by simpa [Value.ownBlock] using hk
    rintro rfl
    have := h.hb.symm.trans hg
    injection this with e
    injection e with _ e2 _
    revert e2
    decide
theorem BuP.kept {base : Nat} {w w' : World} {b n : Nat} {ls : List (List UInt8)} {s : Value} {T : Nat → Prop} (h : BuP base w b n ls s) (k : Keep T w w') (hd : ∀ j, BuS b s j → ¬ T j) : BuP base w' b n ls s :=
  ⟨(k.block b (h.lt b (.inl rfl)) (hd _ (.inl rfl))).trans h.hb, h.bb, ownsRow_keep' h.own fun g hg => k.block g (h.lt g (.inr hg)) (hd _ (.inr hg)), h.h32⟩
theorem BuP.below {base : Nat} {w w' : World} {b n : Nat} {ls : List (List UInt8)} {s : Value} (h : BuP base w b n ls s) (k : Below w.heap.size w w') : BuP base w' b n ls s :=
  h.kept (Keep.of_below k (fun _ => False)) (fun _ _ h => h)
theorem BuP.mono {base base' : Nat} {w : World} {b n : Nat} {ls : List (List UInt8)} {s : Value} (h : BuP base w b n ls s) (hb : base' ≤ base) : BuP base' w b n ls s :=
  ⟨h.hb, Nat.le_trans hb h.bb, ownsRow_mono h.own hb, h.h32⟩
theorem BuP.hss {base : Nat} {w : World} {b n : Nat} {ls : List (List UInt8)} {s : Value} (h : BuP base w b n ls s) : Hss w s ls := hss_own h.own h.h32 rfl
theorem bnew_any (w : World) : Calls Tryz.prog 4 #[] w fun e w' => ∃ b, e = .returned (.pointer (some ⟨b, 0, none⟩)) ∧ BuP w.heap.size w' b 0 [] (.slice none 0 0) ∧ Below w.heap.size w w' := by
  go_enter Tryz.func4, Tryz.ntmps4
  go_wp2
  go_ret
  exact ⟨w.heap.size, rfl, ⟨heap_alloc_new _ _, Nat.le_refl _, World.ownsRow_nil _ _ _ _, fun _ h => by cases h⟩, (Below.refl _ _).alloc (Nat.le_refl _) _⟩
theorem bsize_any (base : Nat) (w : World) (b n : Nat) (ls : List (List UInt8)) (s : Value) (h : BuP base w b n ls s) :
    Calls Tryz.prog 16 #[.pointer (some ⟨b, 0, none⟩)] w fun e w' => e = .returned (.int .u64 (n : Int)) ∧ w = w' := by
  have c1 := cell_at h.hb 1 _ rfl
  clear h
  go_enter Tryz.func16, Tryz.ntmps16
  go_wp2
  go_ret
  exact ⟨rfl, rfl⟩
/-- a slice of hashes, as an append takes it -/
theorem hss_src {w : World} {a : Option Addr} {n c : Nat} {hs : List (List UInt8)} (h : Hss w (.slice a n c) hs) :
    ∀ ad, a = some ad → ∀ j u, (hcells hs)[j]? = some u → w.cell? (ad.add j) = some u := by
  obtain ⟨h0, a', c', e, h1, h2, h3⟩ := h
  cases e
  rintro ad rfl j u hj
  have hlt := (List.getElem?_eq_some_iff.1 hj).1
  rw [hcells_length h0] at hlt
  obtain ⟨B, off, e, hB, hr⟩ := h3 (fun e => by subst e; simp at hlt)
  cases e
  have hi : j / 32 < hs.length := by omega
  have hg := hcells_get h0 (j / 32) hi (j % 32) (by omega)
  rw [show j / 32 * 32 + j % 32 = j by omega, hj] at hg
  have := hr (j / 32) hi (j % 32) u hg.symm
  rw [← this]
  have ea : (⟨B, off, none⟩ : Addr).add j = ⟨B, off + j, none⟩ := by unfold Addr.add; by_cases h : j = 0 <;> simp [h]
  rw [ea, show off + j / 32 * 32 + j % 32 = off + j by omega]
theorem hcells_one (ls : List (List UInt8)) : ∀ u ∈ hcells ls, u.oneCell' = true := by
  intro u hu
  unfold hcells at hu
  obtain ⟨x, _, hx⟩ := List.mem_flatMap.1 hu
  unfold bcells at hx
  obtain ⟨y, _, rfl⟩ := List.mem_map.1 hx
  rfl
theorem bhashes_any (base : Nat) (w : World) (b n : Nat) (ls : List (List UInt8)) (s : Value) (h : BuP base w b n ls s) (hm : ls.length ≤ 1099511627776) :
    Calls Tryz.prog 17 #[.pointer (some ⟨b, 0, none⟩)] w fun e w' => ∃ v, e = .returned v ∧ w'.ownsRow w.heap.size 66 32 v ls.length (hcells ls) ∧ Below w.heap.size w w' := by
  have c2 := cell_at h.hb 2 _ rfl
  obtain ⟨a, c, rfl, hc1, hc2, hc3⟩ := own_shape h.own
  obtain ⟨hnil, hnews⟩ := own_src h.own
  have hcl := hcells_length h.h32
  obtain ⟨i0, hi, hz0, hz1, hz2⟩ := info_parts infoH
  have hn0 := World.ownsRow_nil w w.heap.size 66 32
  have RI := Bx.mk (And.intro hi (And.intro hz0 (And.intro hz1 hz2)))
  have HN := Bx.mk hnil; have HS := Bx.mk hnews; have HL := Bx.mk hcl; have R0 := Bx.mk hn0
  have M1 := Bx.mk (show 0 + ls.length ≤ maxLen by unfold maxLen; omega); have M2 := Bx.mk (show (0 + ls.length) * 32 ≤ 140737488355328 by omega)
  clear h hnil hnews hcl hi hz0 hz1 hz2 hc1 hc2 hc3 hn0 hm
  go_enter Tryz.func17, Tryz.ntmps17
  go_wp2_with (guard_target =~ wpList _ _ _ (⟨some 9, _, _, _, _, _⟩ :: _) _ _; refine wpList_append_src rfl (.const (.slice none 0 0)) (.tmp 8) 51 rfl w.heap.size 66 i0 (.agg zeros32) 32 32 underHs RI.out.1 RI.out.2.1 RI.out.2.2.1 RI.out.2.2.2 rfl (by decide) (.slice none 0 0) 0 [] rfl R0.out a ls.length c (hcells ls) rfl HN.out HL.out HS.out (hcells_one _) M1.out M2.out (Nat.le_refl _) ?_; intro v1 w1 o1 g1 _; have O1 := Bx.mk o1; have G1 := Bx.mk g1; clear o1 g1)
  go_ret
  have o1 := O1.out
  rw [Nat.zero_add, List.nil_append] at o1
  have g1 : Keep (fun _ => False) w w1 := (Keep.of_grown G1.out).mono fun k _ h => by cases h
  exact ⟨v1, rfl, o1, g1.below (Nat.le_refl _) (fun _ h => h.elim)⟩
end Go.Proofs.YtbhcaalelfaceaaGreatDoor
