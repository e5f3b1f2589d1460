/- A Cut out of a reading. -/
import Derived.Test.YtgbafjmklefoiaaDoorCpTop
import Derived.Test.YtgbafjmklefoiaaDoorCpT
namespace Go.Proofs.YtgbafjmklefoiaaDoor
set_option maxRecDepth 100000
open Go.ChangeShapes Go.WideShapes Go.ChangeAt Go.RowKit
theorem underU64t : Tryd.prog.underlying 26 = some (.int .u64) := by kernel_rfl
theorem underU8t : Tryd.prog.underlying 5 = some (.int .u8) := by kernel_rfl
theorem cut_parts {cs : List Value} (h : cs.length = 4) : cs = cs.take 1 ++ ((cs.drop 1).take 1 ++ ((cs.drop 2).take 1 ++ (cs.drop 3).take 1)) := by
  match cs, h with
  | [a, b, c, d], _ => rfl
theorem cut_of {H : Type} {enc : TypeId × Value → H} {W : World} {base : Nat} {v : Value} {d : DataW H} {p : List MemPlace} (hv' : Value.okWide Tryd.prog W .any base 47 v)
    (h : DataW.Trod enc Tryd.prog W 0 (fun _ => true) true 47 v d p) :
    ∃ (b : Nat) (ad : Option Addr) (n cap : Nat) (hs : List (List UInt8)) (ca cb : Nat), v = .agg #[.int .u64 (b : Int), .slice ad n cap, .int .u8 (ca : Int), .int .u8 (cb : Int)] ∧ b < 18446744073709551616 ∧ ca < 256 ∧ cb < 256 ∧ Hss W (.slice ad n cap) hs ∧ (ad = none → cap = 0) := by
  simp only [Value.okWide, Tryd.underlying47] at hv'
  obtain ⟨cs, rfl, hsz, _⟩ := hv'
  obtain ⟨fuel, hf⟩ := h
  obtain ⟨xs, m, _, _, hl, hlen, hel⟩ := DataW.trod_struct Tryd.underlying47 hf
  rw [show Tryd.prog.cellsOf 47 = 4 by kernel_rfl] at hl
  have f0 : DataW.trod enc Tryd.prog W 0 (fun _ => true) true m 26 (((Value.agg cs).cells.toList.drop 0).take (Tryd.prog.cellsOf 26)) = xs[0]? := hel 0 _ rfl
  have f1 : DataW.trod enc Tryd.prog W 0 (fun _ => true) true m 22 (((Value.agg cs).cells.toList.drop 1).take (Tryd.prog.cellsOf 22)) = xs[1]? := hel 1 _ rfl
  have f2 : DataW.trod enc Tryd.prog W 0 (fun _ => true) true m 5 (((Value.agg cs).cells.toList.drop 2).take (Tryd.prog.cellsOf 5)) = xs[2]? := hel 2 _ rfl
  have f3 : DataW.trod enc Tryd.prog W 0 (fun _ => true) true m 5 (((Value.agg cs).cells.toList.drop 3).take (Tryd.prog.cellsOf 5)) = xs[3]? := hel 3 _ rfl
  rw [show Tryd.prog.cellsOf 26 = 1 by kernel_rfl, List.drop_zero] at f0
  rw [show Tryd.prog.cellsOf 22 = 1 by kernel_rfl] at f1
  rw [show Tryd.prog.cellsOf 5 = 1 by kernel_rfl] at f2 f3
  have hx : xs.length = 4 := by simpa using hlen
  rw [List.getElem?_eq_getElem (by omega)] at f0 f1 f2 f3
  have hcs : cs.toList.length = 4 := by simpa [Value.cells] using hl
  have e0 : (Value.agg cs).cells = cs := rfl
  rw [e0] at f0 f1 f2 f3
  obtain ⟨a, q0, _, wa⟩ := DataW.trod_int underU64t f0
  obtain ⟨x, q2, _, wx⟩ := DataW.trod_int underU8t f2
  obtain ⟨y, q3, _, wy⟩ := DataW.trod_int underU8t f3
  have ha : 0 ≤ a ∧ a ≤ 18446744073709551615 := by simpa [Lit.wf, IntKind.min, IntKind.max, IntKind.signed, IntKind.bits] using wa
  have hx8 : 0 ≤ x ∧ x ≤ 255 := by simpa [Lit.wf, IntKind.min, IntKind.max, IntKind.signed, IntKind.bits] using wx
  have hy8 : 0 ≤ y ∧ y ≤ 255 := by simpa [Lit.wf, IntKind.min, IntKind.max, IntKind.signed, IntKind.bits] using wy
  have g1 := f1
  obtain ⟨v, hs, q1, hss⟩ := hss_of_trod f1
  obtain ⟨ad, cap, rfl, _⟩ := hss.len
  have hnil : ad = none → cap = 0 := by
    intro e
    subst e
    rcases Deep.open_slice underHs g1 with ⟨hcs', _⟩ | ⟨y, l, c, m, n', D, Pl, hcs', _⟩
    · rw [q1] at hcs'
      simp at hcs'
      omega
    · rw [q1] at hcs'
      simp at hcs'
  refine ⟨a.toNat, ad, hs.length, cap, hs, x.toNat, y.toNat, ?_, by omega, by omega, by omega, hss, hnil⟩
  congr 1
  apply Array.ext'
  rw [cut_parts hcs, q0, q1, q2, q3, Int.toNat_of_nonneg ha.1, Int.toNat_of_nonneg hx8.1, Int.toNat_of_nonneg hy8.1]
  rfl
end Go.Proofs.YtgbafjmklefoiaaDoor
