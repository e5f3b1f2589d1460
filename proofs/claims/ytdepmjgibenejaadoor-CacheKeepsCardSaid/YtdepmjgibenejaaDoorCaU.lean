/- Uses of a cache that came in: a slice of structs out of a reading. -/
import Derived.Test.YtdepmjgibenejaaDoorCaK
import Derived.Test.YtdepmjgibenejaaDoorCaTop
import Derived.Test.YtdepmjgibenejaaDoorErrT
import Derived.Deep.Slices
namespace Go.Proofs.YtdepmjgibenejaaDoor
set_option maxRecDepth 100000
open Go.ChangeShapes Go.WideShapes Go.ChangeAt Go.RowKit
theorem cellsUse : Tryd.prog.cellsOf 70 = 3 := by kernel_rfl
theorem cellsStrU : Tryd.prog.cellsOf 9 = 1 := by kernel_rfl
theorem cellsIntU : Tryd.prog.cellsOf 3 = 1 := by kernel_rfl
theorem cellsBoolU : Tryd.prog.cellsOf 4 = 1 := by kernel_rfl
theorem underIntU : Tryd.prog.underlying 3 = some (.int .i64) := by kernel_rfl
theorem underUses : Tryd.prog.underlying 65 = some (.slice 70) := by kernel_rfl
theorem use_of_trod {H : Type} {enc : TypeId × Value → H} {W : World} {fuel : Nat} {cs : List Value} {x : DataW H × List MemPlace}
    (h : DataW.trod enc Tryd.prog W 0 (fun _ => true) true fuel 70 cs = some x) : ∃ u : UseR, cs = ucells u ∧ kwS u.k := by
  obtain ⟨xs, m, _, hx, hl, hlen, hel⟩ := DataW.trod_struct Tryd.underlying70 h
  rw [cellsUse] at hl
  have f0 : DataW.trod enc Tryd.prog W 0 (fun _ => true) true m 9 ((cs.drop 0).take (Tryd.prog.cellsOf 9)) = xs[0]? := hel 0 _ rfl
  have f1 : DataW.trod enc Tryd.prog W 0 (fun _ => true) true m 3 ((cs.drop 1).take (Tryd.prog.cellsOf 3)) = xs[1]? := hel 1 _ rfl
  have f2 : DataW.trod enc Tryd.prog W 0 (fun _ => true) true m 4 ((cs.drop 2).take (Tryd.prog.cellsOf 4)) = xs[2]? := hel 2 _ rfl
  rw [cellsStrU] at f0
  rw [cellsIntU] at f1
  rw [cellsBoolU] at f2
  have hl3 : xs.length = 3 := by simpa using hlen
  rw [List.getElem?_eq_getElem (by omega)] at f0 f1 f2
  obtain ⟨a, e0, _, wa⟩ := DataW.trod_string Tryd.underlying9 f0
  obtain ⟨b, e1, _, _⟩ := DataW.trod_int underIntU f1
  obtain ⟨c, e2, _⟩ := DataW.trod_bool Tryd.underlying4 f2
  match cs, hl with
  | [c0, c1, c2], _ =>
    simp only [List.drop_zero, List.take_succ_cons, List.take_zero, List.drop_succ_cons] at e0 e1 e2
    cases e0; cases e1; cases e2
    exact ⟨⟨a, b, c⟩, rfl, wa⟩
theorem uses_of {H : Type} {enc : TypeId × Value → H} {W : World} {base : Nat} {v : Value} {d : DataW H} {p : List MemPlace} (hv' : Value.okWide Tryd.prog W .any base 65 v)
    (h : DataW.Trod enc Tryd.prog W 0 (fun _ => true) true 65 v d p) : ∃ us : List UseR, UsesAt W v us := by
  obtain ⟨a0, len0, cap0, rfl⟩ := okWide_slice underUses hv'
  obtain ⟨fuel, hf⟩ := h
  rcases Deep.open_slice underUses hf with ⟨hcs, _⟩ | ⟨y, l, c, m, n, D, Pl, hcs, _, hl, hm, hmm, hx, hel⟩
  · simp [Value.cells] at hcs
    obtain ⟨rfl, rfl, rfl⟩ := hcs
    exact ⟨[], none, 0, rfl, Nat.le_refl _, by simp [maxLen], fun o h => (by cases h), fun h => absurd rfl h⟩
  · simp [Value.cells] at hcs
    obtain ⟨rfl, rfl, rfl⟩ := hcs
    have hmc : m = cap0 := by simpa using hmm
    subst hmc
    rw [cellsUse] at hel
    have key : ∀ i, i < len0 → ∃ u : UseR, W.cells? 0 (y.add (i * 3)) 3 = some (ucells u) ∧ kwS u.k := fun i hi => by
      obtain ⟨cs', h1, h2⟩ := hel i (by omega)
      obtain ⟨u, rfl, h3⟩ := use_of_trod h2
      exact ⟨u, h1, h3⟩
    refine ⟨(List.finRange len0).map fun i => Classical.choose (key i.1 i.2), some y, m, by simp, by simpa using hl, hm, fun o ho => ?_, fun hne => ?_⟩
    · obtain ⟨i, _, rfl⟩ := List.mem_map.1 ho
      exact (Classical.choose_spec (key i.1 i.2)).2
    · have hpos : 0 < len0 := by
        rcases Nat.eq_zero_or_pos len0 with h0 | h0
        · subst h0; simp at hne
        · exact h0
      obtain ⟨o0, hc0, _⟩ := key 0 hpos
      obtain ⟨_, _, g0⟩ := World.cells?_some hc0
      have c0 := g0 0 (by decide)
      rw [show (y.add (0 * 3)).add 0 = y by rw [show 0 * 3 = 0 from rfl]; rfl] at c0
      have c0' : W.cell? y = some (.string o0.k) := by rw [c0]; rfl
      obtain ⟨B, off, sp⟩ := y
      have hsp : sp = none := by
        unfold World.cell? at c0'
        split at c0'
        · cases sp with
          | none => rfl
          | some _ => simp at c0'
        · cases c0'
      subst hsp
      refine ⟨B, off, rfl, block_lt_of_cell c0', fun i hi j v hv => ?_⟩
      have hi' : i < len0 := by simpa using hi
      obtain ⟨e2, _⟩ := Classical.choose_spec (key i hi')
      obtain ⟨_, _, g⟩ := World.cells?_some e2
      have hj : j < 3 := by
        have := (List.getElem?_eq_some_iff.1 hv).1
        simpa [ucells] using this
      have gj := g j hj
      have ha : ((⟨B, off, none⟩ : Addr).add (i * 3)).add j = ⟨B, off + i * 3 + j, none⟩ := by rw [Addr.add_mid, Addr.add_mid]
      have gj' : W.cell? ⟨B, off + i * 3 + j, none⟩ = _ := (congrArg W.cell? ha).symm.trans gj
      rw [gj', ← hv]
      simp
end Go.Proofs.YtdepmjgibenejaaDoor
