/- Operations that came in, with the bound that the form's own reach gives. -/
import Derived.Test.YtfoknhogclfhhaaDoorTopB
import Derived.Test.YtfoknhogclfhhaaDoorTopS
import Derived.Test.YtfoknhogclfhhaaDoorPlD
import Derived.Deep.Slices
namespace Go.Proofs.YtfoknhogclfhhaaDoor
set_option maxRecDepth 100000
open Go.ChangeShapes Go.WideShapes Go.ChangeAt Go.RowKit
theorem cellsOp : Tryd.prog.cellsOf 32 = 3 := by kernel_rfl
theorem cellsIn : Tryd.prog.cellsOf 3 = 1 := by kernel_rfl
theorem cellsBs : Tryd.prog.cellsOf 30 = 1 := by kernel_rfl
theorem underIn : Tryd.prog.underlying 3 = some (.int .i64) := by kernel_rfl
theorem underOps : Tryd.prog.underlying 22 = some (.slice 32) := by kernel_rfl
theorem bytesU : Tryd.prog.bytesOf 5 = 1 := by kernel_rfl
theorem op_of_trod {H : Type} {enc : TypeId × Value → H} {W : World} {fuel : Nat} {cs : List Value} {x : DataW H × List MemPlace}
    (h : DataW.trod enc Tryd.prog W 0 (fun _ => true) true fuel 32 cs = some x) :
    ∃ o : OpR, cs = opcells o ∧ Src W (.slice o.da o.l.length o.dc) o.l ∧ ∀ bnd, (∀ k ∈ x.1.weights Tryd.prog 32, k ≤ bnd) → o.l.length ≤ bnd := by
  obtain ⟨xs, m, _, hx, hl, hlen, hel⟩ := DataW.trod_struct Tryd.underlying32 h
  rw [cellsOp] at hl
  have f0 : DataW.trod enc Tryd.prog W 0 (fun _ => true) true m 3 ((cs.drop 0).take (Tryd.prog.cellsOf 3)) = xs[0]? := hel 0 _ rfl
  have f1 : DataW.trod enc Tryd.prog W 0 (fun _ => true) true m 3 ((cs.drop 1).take (Tryd.prog.cellsOf 3)) = xs[1]? := hel 1 _ rfl
  have f2 : DataW.trod enc Tryd.prog W 0 (fun _ => true) true m 30 ((cs.drop 2).take (Tryd.prog.cellsOf 30)) = xs[2]? := hel 2 _ rfl
  rw [cellsIn] at f0 f1
  rw [cellsBs] at f2
  have hl3 : xs.length = 3 := by simpa using hlen
  rw [List.getElem?_eq_getElem (by omega)] at f0 f1 f2
  obtain ⟨a, e0, _, _⟩ := DataW.trod_int underIn f0
  obtain ⟨b, e1, _, _⟩ := DataW.trod_int underIn f1
  match cs, hl with
  | [c0, c1, c2], _ =>
    simp only [List.drop_zero, List.take_succ_cons, List.take_zero, List.drop_succ_cons] at e0 e1 f2
    cases e0; cases e1
    have hw : ∀ k ∈ (xs[2].1).weights Tryd.prog 30, k ∈ x.1.weights Tryd.prog 32 := fun k hk => by
      rw [hx]
      simp only [DataW.weights, Tryd.underlying32]
      exact DataW.weights_mem_each (j := 2) (t := 30) (d := xs[2].1) rfl (by rw [List.getElem?_map, List.getElem?_eq_getElem (by omega)]; rfl) k hk
    rcases open_ints underB underU8 cellsU8 f2 with ⟨hcs, _⟩ | ⟨y, l', c, zs, hcs, _, hl', hm, hz, hx2, _, _⟩
    · cases hcs
      exact ⟨⟨a, b, none, 0, []⟩, rfl, ⟨none, 0, rfl, Nat.le_refl _, by simp [maxLen], fun _ => rfl, fun h => absurd rfl h⟩, fun _ _ => Nat.zero_le _⟩
    · cases hcs
      obtain ⟨l, hll, hS⟩ := src_of_trod (a := some y) (len := l') (cap := c) f2
      refine ⟨⟨a, b, some y, c, l⟩, by unfold opcells; rw [hll], by rw [hll]; exact hS, fun bnd hb => ?_⟩
      have hz' : zs.length = c := by simpa using hz
      have h1 := hb _ (hw (((lits (H := H) .u8 (zs.take l')).length + (lits (H := H) .u8 (zs.drop l')).length) * 1) (by
        rw [hx2]
        simp [DataW.weights, bytesU]))
      have e1 : (lits (H := H) .u8 (zs.take l')).length = l' := by simp [lits]; omega
      rw [e1] at h1
      show l.length ≤ bnd
      omega
theorem ops_sized {H : Type} {enc : TypeId × Value → H} {W : World} {base : Nat} {v : Value} {d : DataW H} {p : List MemPlace} {ts : List TypeId} {ds : List (DataW H)} {j : Nat} (hv' : Value.okWide Tryd.prog W .any base 22 v)
    (h : DataW.Trod enc Tryd.prog W 0 (fun _ => true) true 22 v d p) (hsz : (DataW.weightsEach Tryd.prog ts ds).all (· ≤ reachBytes) = true) (hj : ts[j]? = some 22) (hd : ds[j]? = some d) :
    ∃ os : List OpR, OpsAt W v os := by
  obtain ⟨a0, len0, cap0, rfl⟩ := okWide_slice underOps hv'
  obtain ⟨fuel, hf⟩ := h
  rcases Deep.open_slice underOps hf with ⟨hcs, _⟩ | ⟨y, l, c, m, n, D, Pl, hcs, _, hl, hm, hmm, hx, hel⟩
  · simp [Value.cells] at hcs
    obtain ⟨rfl, rfl, rfl⟩ := hcs
    exact ⟨[], none, 0, rfl, Nat.le_refl _, by simp [maxLen], fun o h => (by cases h), fun h => absurd rfl h⟩
  · simp [Value.cells] at hcs
    obtain ⟨rfl, rfl, rfl⟩ := hcs
    simp only [Prod.mk.injEq] at hx
    obtain ⟨rfl, _⟩ := hx
    have hmc : m = cap0 := by simpa using hmm
    subst hmc
    rw [cellsOp] at hel
    have key : ∀ i, i < len0 → ∃ o : OpR, W.cells? 0 (y.add (i * 3)) 3 = some (opcells o) ∧ Src W (.slice o.da o.l.length o.dc) o.l ∧ o.l.length ≤ 140737488351232 := fun i hi => by
      obtain ⟨cs', h1, h2⟩ := hel i (by omega)
      obtain ⟨o, rfl, h3, h4⟩ := op_of_trod h2
      refine ⟨o, h1, h3, ?_⟩
      have := h4 reachBytes (fun k hk => by
        have h5 := weightsAll_mem (P := Tryd.prog) (e := 32) (l := (List.range len0).map D) (d := D i) (List.mem_map.2 ⟨i, List.mem_range.2 hi, rfl⟩) k hk
        have h6 := List.all_eq_true.1 hsz _ (DataW.weights_mem_each hj hd k (by
          simp only [DataW.weights, underOps, List.mem_cons, List.mem_append]
          exact .inr (.inl h5)))
        simpa using h6)
      unfold reachBytes at this
      omega
    refine ⟨(List.finRange len0).map fun i => Classical.choose (key i.1 i.2), some y, m, by simp, by simpa using hl, hm, fun o ho => ?_, fun hne => ?_⟩
    · obtain ⟨i, _, rfl⟩ := List.mem_map.1 ho
      exact (Classical.choose_spec (key i.1 i.2)).2
    · have hpos : 0 < len0 := by
        rcases Nat.eq_zero_or_pos len0 with h0 | h0
        · subst h0; simp at hne
        · exact h0
      obtain ⟨o0, hc0, _⟩ := key 0 hpos
      obtain ⟨_, _, g0⟩ := World.cells?_some hc0
      have c0 := g0 0 (by decide)
      rw [show (y.add (0 * 3)).add 0 = y by rw [show 0 * 3 = 0 from rfl]; rfl] at c0
      have c0' : W.cell? y = some (.int .i64 o0.kind) := by rw [c0]; rfl
      obtain ⟨B, off, sp⟩ := y
      have hsp : sp = none := by
        unfold World.cell? at c0'
        split at c0'
        · cases sp with
          | none => rfl
          | some _ => simp at c0'
        · cases c0'
      subst hsp
      refine ⟨B, off, rfl, block_lt_of_cell c0', fun i hi j v hv => ?_⟩
      have hi' : i < len0 := by simpa using hi
      obtain ⟨e2, _, _⟩ := Classical.choose_spec (key i hi')
      obtain ⟨_, _, g⟩ := World.cells?_some e2
      have hj : j < 3 := by
        have := (List.getElem?_eq_some_iff.1 hv).1
        simpa [opcells] using this
      have gj := g j hj
      have ha : ((⟨B, off, none⟩ : Addr).add (i * 3)).add j = ⟨B, off + i * 3 + j, none⟩ := by rw [Addr.add_mid, Addr.add_mid]
      have gj' : W.cell? ⟨B, off + i * 3 + j, none⟩ = _ := (congrArg W.cell? ha).symm.trans gj
      rw [gj', ← hv]
      simp
end Go.Proofs.YtfoknhogclfhhaaDoor
