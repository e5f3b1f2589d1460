/- Ops of two caches that came in: a slice of structs out of a reading. -/
import Derived.Test.YtdepmjgibenejaaGreatDoorRcH
import Derived.Test.YtdepmjgibenejaaGreatDoorCaTop
import Derived.Test.YtdepmjgibenejaaGreatDoorErrT
import Derived.Deep.Slices
namespace Go.Proofs.YtdepmjgibenejaaGreatDoor
set_option maxRecDepth 100000
open Go.ChangeShapes Go.WideShapes Go.ChangeAt Go.RowKit
theorem cellsOpC : Tryz.prog.cellsOf 40 = 4 := by kernel_rfl
theorem cellsIntU : Tryz.prog.cellsOf 3 = 1 := by kernel_rfl
theorem underIntU : Tryz.prog.underlying 3 = some (.int .i64) := by kernel_rfl
theorem underOpsC : Tryz.prog.underlying 22 = some (.slice 40) := by kernel_rfl
theorem opc_of_trod {H : Type} {enc : TypeId × Value → H} {W : World} {fuel : Nat} {cs : List Value} {x : DataW H × List MemPlace}
    (h : DataW.trod enc Tryz.prog W 0 (fun _ => true) true fuel 40 cs = some x) : ∃ u : K.OpC, cs = K.opcs u ∧ kwI u.key := by
  obtain ⟨xs, m, _, hx, hl, hlen, hel⟩ := DataW.trod_struct Tryz.underlying40 h
  rw [cellsOpC] at hl
  have f0 : DataW.trod enc Tryz.prog W 0 (fun _ => true) true m 3 ((cs.drop 0).take (Tryz.prog.cellsOf 3)) = xs[0]? := hel 0 _ rfl
  have f1 : DataW.trod enc Tryz.prog W 0 (fun _ => true) true m 3 ((cs.drop 1).take (Tryz.prog.cellsOf 3)) = xs[1]? := hel 1 _ rfl
  have f2 : DataW.trod enc Tryz.prog W 0 (fun _ => true) true m 3 ((cs.drop 2).take (Tryz.prog.cellsOf 3)) = xs[2]? := hel 2 _ rfl
  have f3 : DataW.trod enc Tryz.prog W 0 (fun _ => true) true m 3 ((cs.drop 3).take (Tryz.prog.cellsOf 3)) = xs[3]? := hel 3 _ rfl
  rw [cellsIntU] at f0 f1 f2 f3
  have hl3 : xs.length = 4 := by simpa using hlen
  rw [List.getElem?_eq_getElem (by omega)] at f0 f1 f2 f3
  obtain ⟨a, e0, _, _⟩ := DataW.trod_int underIntU f0
  obtain ⟨b, e1, _, _⟩ := DataW.trod_int underIntU f1
  obtain ⟨c, e2, _, wc⟩ := DataW.trod_int underIntU f2
  obtain ⟨d, e3, _, _⟩ := DataW.trod_int underIntU f3
  match cs, hl with
  | [c0, c1, c2, c3], _ =>
    simp only [List.drop_zero, List.take_succ_cons, List.take_zero, List.drop_succ_cons] at e0 e1 e2 e3
    cases e0; cases e1; cases e2; cases e3
    exact ⟨⟨a, b, c, d⟩, rfl, wc⟩
theorem opsC_of {H : Type} {enc : TypeId × Value → H} {W : World} {base : Nat} {v : Value} {d : DataW H} {p : List MemPlace} (hv' : Value.okWide Tryz.prog W .any base 22 v)
    (h : DataW.Trod enc Tryz.prog W 0 (fun _ => true) true 22 v d p) : ∃ us : List K.OpC, K.OpsC W v us := by
  obtain ⟨a0, len0, cap0, rfl⟩ := okWide_slice underOpsC hv'
  obtain ⟨fuel, hf⟩ := h
  rcases Deep.open_slice underOpsC hf with ⟨hcs, _⟩ | ⟨y, l, c, m, n, D, Pl, hcs, _, hl, hm, hmm, hx, hel⟩
  · simp [Value.cells] at hcs
    obtain ⟨rfl, rfl, rfl⟩ := hcs
    exact ⟨[], none, 0, rfl, Nat.le_refl _, by simp [maxLen], fun o h => (by cases h), fun h => absurd rfl h⟩
  · simp [Value.cells] at hcs
    obtain ⟨rfl, rfl, rfl⟩ := hcs
    have hmc : m = cap0 := by simpa using hmm
    subst hmc
    rw [cellsOpC] at hel
    have key : ∀ i, i < len0 → ∃ u : K.OpC, W.cells? 0 (y.add (i * 4)) 4 = some (K.opcs u) ∧ kwI u.key := fun i hi => by
      obtain ⟨cs', h1, h2⟩ := hel i (by omega)
      obtain ⟨u, rfl, h3⟩ := opc_of_trod h2
      exact ⟨u, h1, h3⟩
    refine ⟨(List.finRange len0).map fun i => Classical.choose (key i.1 i.2), some y, m, by simp, by simpa using hl, hm, fun o ho => ?_, fun hne => ?_⟩
    · obtain ⟨i, _, rfl⟩ := List.mem_map.1 ho
      exact (Classical.choose_spec (key i.1 i.2)).2
    · have hpos : 0 < len0 := by
        rcases Nat.eq_zero_or_pos len0 with h0 | h0
        · subst h0; simp at hne
        · exact h0
      obtain ⟨o0, hc0, _⟩ := key 0 hpos
      obtain ⟨_, _, g0⟩ := World.cells?_some hc0
      have c0 := g0 0 (by decide)
      rw [show (y.add (0 * 4)).add 0 = y by rw [show 0 * 4 = 0 from rfl]; rfl] at c0
      have c0' : W.cell? y = some (.int .i64 o0.kd) := by rw [c0]; rfl
      obtain ⟨B, off, sp⟩ := y
      have hsp : sp = none := by
        unfold World.cell? at c0'
        split at c0'
        · cases sp with
          | none => rfl
          | some _ => simp at c0'
        · cases c0'
      subst hsp
      refine ⟨B, off, rfl, block_lt_of_cell c0', fun i hi j v hv => ?_⟩
      have hi' : i < len0 := by simpa using hi
      obtain ⟨e2, _⟩ := Classical.choose_spec (key i hi')
      obtain ⟨_, _, g⟩ := World.cells?_some e2
      have hj : j < 4 := by
        have := (List.getElem?_eq_some_iff.1 hv).1
        simpa [K.opcs] using this
      have gj := g j hj
      have ha : ((⟨B, off, none⟩ : Addr).add (i * 4)).add j = ⟨B, off + i * 4 + j, none⟩ := by rw [Addr.add_mid, Addr.add_mid]
      have gj' : W.cell? ⟨B, off + i * 4 + j, none⟩ = _ := (congrArg W.cell? ha).symm.trans gj
      rw [gj', ← hv]
      simp
end Go.Proofs.YtdepmjgibenejaaGreatDoor
