/- Paths and proofs out of a reading. -/
import Derived.Test.YtmlpldkgennmkaaDoorHTop
import Derived.Test.YtmlpldkgennmkaaDoorVu
namespace Go.Proofs.YtmlpldkgennmkaaDoor
set_option maxRecDepth 100000
open Go.ChangeShapes Go.WideShapes Go.ChangeAt Go.RowKit
def zP : Value := .agg (pcells 0 0 zero32' zero32' (.slice none 0 0))
theorem underU64 : Tryd.prog.underlying 22 = some (.int .u64) := by kernel_rfl
theorem cellsU64 : Tryd.prog.cellsOf 22 = 1 := by kernel_rfl
theorem cellsHs : Tryd.prog.cellsOf 25 = 1 := by kernel_rfl
theorem five_parts (cs : List Value) (h : cs.length = 67) : cs = cs.take 1 ++ ((cs.drop 1).take 1 ++ ((cs.drop 2).take 32 ++ ((cs.drop 34).take 32 ++ (cs.drop 66).take 1))) := by
  have e5 : (cs.drop 66).take 1 = cs.drop 66 := List.take_of_length_le (by simp; omega)
  have e4 : (cs.drop 34).take 32 ++ cs.drop 66 = cs.drop 34 := by
    have := List.take_append_drop 32 (cs.drop 34); rwa [List.drop_drop] at this
  have e3 : (cs.drop 2).take 32 ++ cs.drop 34 = cs.drop 2 := by
    have := List.take_append_drop 32 (cs.drop 2); rwa [List.drop_drop] at this
  have e2 : (cs.drop 1).take 1 ++ cs.drop 2 = cs.drop 1 := by
    have := List.take_append_drop 1 (cs.drop 1); rwa [List.drop_drop] at this
  rw [e5, e4, e3, e2, List.take_append_drop]
theorem parts_of {H : Type} {enc : TypeId × Value → H} {W : World} {m : Nat} {cs : List Value} {xs : List (DataW H × List MemPlace)} (hcs : cs.length = 67) (hx : xs.length = 5)
    (f0 : DataW.trod enc Tryd.prog W 0 (fun _ => true) true m 22 (cs.take 1) = xs[0]?) (f1 : DataW.trod enc Tryd.prog W 0 (fun _ => true) true m 22 ((cs.drop 1).take 1) = xs[1]?)
    (f2 : DataW.trod enc Tryd.prog W 0 (fun _ => true) true m 24 ((cs.drop 2).take 32) = xs[2]?) (f3 : DataW.trod enc Tryd.prog W 0 (fun _ => true) true m 24 ((cs.drop 34).take 32) = xs[3]?)
    (f4 : DataW.trod enc Tryd.prog W 0 (fun _ => true) true m 25 ((cs.drop 66).take 1) = xs[4]?) :
    ∃ (i s : Nat) (leaf root : List UInt8) (ad : Option Addr) (n cap : Nat) (hs : List (List UInt8)), cs.toArray = pcells i s leaf root (.slice ad n cap) ∧ i < 18446744073709551616 ∧ s < 18446744073709551616 ∧ leaf.length = 32 ∧ root.length = 32 ∧ Hss W (.slice ad n cap) hs := by
  rw [List.getElem?_eq_getElem (by omega)] at f0 f1 f2 f3 f4
  obtain ⟨a, e0, _, wa⟩ := DataW.trod_int underU64 f0
  obtain ⟨b, e1, _, wb⟩ := DataW.trod_int underU64 f1
  have ha : 0 ≤ a ∧ a ≤ 18446744073709551615 := by simpa [Lit.wf, IntKind.min, IntKind.max, IntKind.signed, IntKind.bits] using wa
  have hb : 0 ≤ b ∧ b ≤ 18446744073709551615 := by simpa [Lit.wf, IntKind.min, IntKind.max, IntKind.signed, IntKind.bits] using wb
  obtain ⟨leaf, hl, e2⟩ := hash_cells f2
  obtain ⟨root, hr, e3⟩ := hash_cells f3
  obtain ⟨v, hs, e4, hss⟩ := hss_of_trod f4
  obtain ⟨ad, cap, rfl, _⟩ := hss.len
  refine ⟨a.toNat, b.toNat, leaf, root, ad, hs.length, cap, hs, ?_, by omega, by omega, hl, hr, hss⟩
  rw [five_parts cs hcs, e0, e1, e2, e3, e4]
  unfold pcells ocells
  rw [Int.toNat_of_nonneg ha.1, Int.toNat_of_nonneg hb.1]
  apply Array.ext'
  simp
theorem path_of {H : Type} {enc : TypeId × Value → H} {W : World} {base : Nat} {v : Value} {d : DataW H} {p : List MemPlace} (hv' : Value.okWide Tryd.prog W .any base 27 v)
    (h : DataW.Trod enc Tryd.prog W 0 (fun _ => true) true 27 v d p) :
    ∃ (i s : Nat) (leaf root : List UInt8) (ad : Option Addr) (n cap : Nat) (hs : List (List UInt8)), v = .agg (pcells i s leaf root (.slice ad n cap)) ∧ i < 18446744073709551616 ∧ s < 18446744073709551616 ∧ leaf.length = 32 ∧ root.length = 32 ∧ Hss W (.slice ad n cap) hs := by
  simp only [Value.okWide, Tryd.underlying27] at hv'
  obtain ⟨cs, rfl, hsz, _⟩ := hv'
  obtain ⟨fuel, hf⟩ := h
  obtain ⟨xs, m, _, _, hl, hlen, hel⟩ := DataW.trod_struct Tryd.underlying27 hf
  rw [show Tryd.prog.cellsOf 27 = 67 by kernel_rfl] at hl
  have f0 : DataW.trod enc Tryd.prog W 0 (fun _ => true) true m 22 (((Value.agg cs).cells.toList.drop 0).take (Tryd.prog.cellsOf 22)) = xs[0]? := hel 0 _ rfl
  have f1 : DataW.trod enc Tryd.prog W 0 (fun _ => true) true m 22 (((Value.agg cs).cells.toList.drop 1).take (Tryd.prog.cellsOf 22)) = xs[1]? := hel 1 _ rfl
  have f2 : DataW.trod enc Tryd.prog W 0 (fun _ => true) true m 24 (((Value.agg cs).cells.toList.drop 2).take (Tryd.prog.cellsOf 24)) = xs[2]? := hel 2 _ rfl
  have f3 : DataW.trod enc Tryd.prog W 0 (fun _ => true) true m 24 (((Value.agg cs).cells.toList.drop 34).take (Tryd.prog.cellsOf 24)) = xs[3]? := hel 3 _ rfl
  have f4 : DataW.trod enc Tryd.prog W 0 (fun _ => true) true m 25 (((Value.agg cs).cells.toList.drop 66).take (Tryd.prog.cellsOf 25)) = xs[4]? := hel 4 _ rfl
  rw [cellsU64] at f0 f1
  rw [cellsH] at f2 f3
  rw [cellsHs] at f4
  rw [List.drop_zero] at f0
  obtain ⟨i, s, leaf, root, ad, n, cap, hs, e, r⟩ := parts_of hl (by simpa using hlen) f0 f1 f2 f3 f4
  exact ⟨i, s, leaf, root, ad, n, cap, hs, by rw [← e]; simp [Value.cells], r⟩
theorem proof_of {H : Type} {enc : TypeId × Value → H} {W : World} {base : Nat} {v : Value} {d : DataW H} {p : List MemPlace} (hv' : Value.okWide Tryd.prog W .any base 45 v)
    (h : DataW.Trod enc Tryd.prog W 0 (fun _ => true) true 45 v d p) :
    ∃ (i s : Nat) (leaf root : List UInt8) (ad : Option Addr) (n cap : Nat) (hs : List (List UInt8)), v = .agg (pcells i s leaf root (.slice ad n cap)) ∧ i < 18446744073709551616 ∧ s < 18446744073709551616 ∧ leaf.length = 32 ∧ root.length = 32 ∧ Hss W (.slice ad n cap) hs := by
  simp only [Value.okWide, Tryd.underlying45] at hv'
  obtain ⟨cs, rfl, hsz, _⟩ := hv'
  obtain ⟨fuel, hf⟩ := h
  obtain ⟨xs, m, _, _, hl, hlen, hel⟩ := DataW.trod_struct Tryd.underlying45 hf
  rw [show Tryd.prog.cellsOf 45 = 67 by kernel_rfl] at hl
  have f0 : DataW.trod enc Tryd.prog W 0 (fun _ => true) true m 22 (((Value.agg cs).cells.toList.drop 0).take (Tryd.prog.cellsOf 22)) = xs[0]? := hel 0 _ rfl
  have f1 : DataW.trod enc Tryd.prog W 0 (fun _ => true) true m 22 (((Value.agg cs).cells.toList.drop 1).take (Tryd.prog.cellsOf 22)) = xs[1]? := hel 1 _ rfl
  have f2 : DataW.trod enc Tryd.prog W 0 (fun _ => true) true m 24 (((Value.agg cs).cells.toList.drop 2).take (Tryd.prog.cellsOf 24)) = xs[2]? := hel 2 _ rfl
  have f3 : DataW.trod enc Tryd.prog W 0 (fun _ => true) true m 24 (((Value.agg cs).cells.toList.drop 34).take (Tryd.prog.cellsOf 24)) = xs[3]? := hel 3 _ rfl
  have f4 : DataW.trod enc Tryd.prog W 0 (fun _ => true) true m 25 (((Value.agg cs).cells.toList.drop 66).take (Tryd.prog.cellsOf 25)) = xs[4]? := hel 4 _ rfl
  rw [cellsU64] at f0 f1
  rw [cellsH] at f2 f3
  rw [cellsHs] at f4
  rw [List.drop_zero] at f0
  obtain ⟨i, s, leaf, root, ad, n, cap, hs, e, r⟩ := parts_of hl (by simpa using hlen) f0 f1 f2 f3 f4
  exact ⟨i, s, leaf, root, ad, n, cap, hs, by rw [← e]; simp [Value.cells], r⟩
end Go.Proofs.YtmlpldkgennmkaaDoor
