/- emit.Load. -/
import Derived.Test.YtbhcaalelfaceaaGreatDoorEmA
import Derived.Test.YtbhcaalelfaceaaGreatDoorEmS
namespace Go.Proofs.YtbhcaalelfaceaaGreatDoor
set_option maxRecDepth 100000
open Go.RowKit
/-- what Load hands out -/
def LoadP (A : Nat → Addr) (base : Nat) (w' : World) (e : Ending) (n : Nat) (hs : List (List UInt8)) : Prop :=
  if 9223372036854775808 < n then e = .returned (.tuple #[.pointer none, .iface 267 (.pointer (some (A 4)))])
  else if hs.length ≠ pcnt n then e = .returned (.tuple #[.pointer none, .iface 267 (.pointer (some (A 1)))])
  else ∃ b s, e = .returned (.tuple #[.pointer (some ⟨b, 0, none⟩), .nilIface]) ∧ BuP base w' b n hs s
set_option maxHeartbeats 400000 in
theorem load_any (A : Nat → Addr) (w : World) (n : Nat) (hn : n < 18446744073709551616) (a : Option Addr) (l c : Nat) (hs : List (List UInt8)) (hH : Hss w (.slice a l c) hs) (hnil : a = none → c = 0 ∧ l = 0) (hE : Hs A w) :
    Calls Tryz.prog 12 #[.int .u64 (n : Int), .slice a l c] w fun e w' => LoadP A w.heap.size w' e n hs ∧ Below w.heap.size w w' := by
  have hl : l = hs.length := by obtain ⟨_, _, e, _⟩ := hH.len; cases e; rfl
  have hcl := hcells_length hH.1
  have hsrc := hss_src hH
  have hlen : hs.length ≤ 9223372036854775807 := by obtain ⟨_, _, e, h1, h2⟩ := hH.len; omega
  obtain ⟨i0, hi, hz0, hz1, hz2⟩ := info_parts infoH
  have hn0 := World.ownsRow_nil w w.heap.size 66 32
  have RI := Bx.mk (And.intro hi (And.intro hz0 (And.intro hz1 hz2)))
  have HN := Bx.mk hnil; have HS := Bx.mk hsrc; have HL := Bx.mk hcl; have R0 := Bx.mk hn0; have H32 := Bx.mk hH.1; have EE := Bx.mk hE
  subst hl
  clear hH hnil hsrc hcl hi hz0 hz1 hz2 hn0 hE
  have co := ones_any n w hn
  have gE4 : w.cell? ⟨0, 0, none⟩ = some (.iface 267 (.pointer (some (A 4)))) := EE.out.err.glob 4 (by decide)
  have gE1 : w.cell? ⟨1, 0, none⟩ = some (.iface 267 (.pointer (some (A 1)))) := EE.out.err.glob 1 (by decide)
  obtain ⟨k, hk⟩ : ∃ k, k = pcnt n := ⟨_, rfl⟩
  have hkl : k ≤ 64 := by rw [hk]; exact pcnt_le n
  rw [← hk] at co
  have CO := Bx.mk co; have HK := Bx.mk hk; clear co hk
  go_enter Tryz.func12, Tryz.ntmps12
  by_cases hbig : 9223372036854775808 < n
  · go_wp2_with fail
    go_quiet (fail)
    go_wp2_with fail
    go_ret2
    exact ⟨by unfold LoadP; rw [if_pos hbig]; rfl, below_drewN (Below.refl _ _) _⟩
  · go_upto_region 3 with (fail)
    go_wp2_with fail
    refine CO.out.mono ?_
    rintro e u ⟨rfl, rfl⟩
    by_cases hp : hs.length = k
    · have M1 := Bx.mk (show 0 + hs.length ≤ maxLen by unfold maxLen; omega); have M2 := Bx.mk (show (0 + hs.length) * 32 ≤ 140737488355328 by omega)
      have hq : ((hs.length : Int) == (k : Int)) = true := by rw [beq_iff_eq]; omega
      have hq' : (hs.length == k) = true := by rw [beq_iff_eq]; exact hp
      have HP := Bx.mk hp
      clear hp
      go_wp2_with (guard_target =~ wpList _ _ _ (⟨some 17, _, _, _, _, _⟩ :: _) _ _; refine wpList_append_src rfl (.const (.slice none 0 0)) (.tmp 16) 51 rfl u.heap.size 66 i0 (.agg zeros32) 32 32 underHs RI.out.1 RI.out.2.1 RI.out.2.2.1 RI.out.2.2.2 rfl (by decide) (.slice none 0 0) 0 [] rfl R0.out a hs.length c (hcells hs) rfl HN.out HL.out HS.out (hcells_one _) M1.out M2.out (Nat.le_refl _) ?_; intro v1 w1 o1 g1 _; obtain ⟨a1, c1, rfl, _, _, _⟩ := own_shape o1; have O1 := Bx.mk o1; have G1 := Bx.mk g1; clear o1 g1)
      go_ret2
      have o1 := O1.out
      rw [Nat.zero_add, List.nil_append] at o1
      have g1 : Keep (fun _ => False) u w1 := (Keep.of_grown G1.out).mono fun k _ h => by cases h
      have b1 : Below u.heap.size u w1 := g1.below (Nat.le_refl _) (fun _ h => h.elim)
      refine ⟨?_, b1.alloc b1.size _⟩
      unfold LoadP
      rw [if_neg hbig, if_neg (fun h => h (HP.out.trans HK.out))]
      exact ⟨w1.heap.size, _, rfl, heap_alloc_new _ _, b1.size, o1.alloc _, H32.out⟩
    · have hq : ((hs.length : Int) == (k : Int)) = false := by rw [beq_eq_false_iff_ne]; omega
      have hq' : (hs.length == k) = false := by rw [beq_eq_false_iff_ne]; exact hp
      go_wp2_with fail
      go_quiet (fail)
      go_wp2_with fail
      go_ret2
      exact ⟨by unfold LoadP; rw [if_neg hbig, if_pos (fun h => hp (h.trans HK.out.symm))]; rfl, below_drewN (Below.refl _ _) _⟩
end Go.Proofs.YtbhcaalelfaceaaGreatDoor
