/- Things that came in: a slice of structs out of a reading; its tiles and hashes may be keys. -/
import Derived.Test.YtdepmjgibenejaaDoorCaKm
import Derived.Test.YtdepmjgibenejaaDoorCaTop
import Derived.Deep.Slices
import Derived.MapViews
namespace Go.Proofs.YtdepmjgibenejaaDoor
set_option maxRecDepth 100000
open Go.ChangeShapes Go.WideShapes Go.ChangeAt Go.RowKit
theorem cellsThK : Tryd.prog.cellsOf 40 = 35 := by kernel_rfl
theorem cellsTlK : Tryd.prog.cellsOf 30 = 3 := by kernel_rfl
theorem cellsHaK : Tryd.prog.cellsOf 32 = 32 := by kernel_rfl
theorem cellsU8K : Tryd.prog.cellsOf 5 = 1 := by kernel_rfl
theorem cellsU64K : Tryd.prog.cellsOf 28 = 1 := by kernel_rfl
theorem cellsIntK : Tryd.prog.cellsOf 3 = 1 := by kernel_rfl
theorem underU8K : Tryd.prog.underlying 5 = some (.int .u8) := by kernel_rfl
theorem underU64K : Tryd.prog.underlying 28 = some (.int .u64) := by kernel_rfl
theorem underIntK : Tryd.prog.underlying 3 = some (.int .i64) := by kernel_rfl
theorem underThsK : Tryd.prog.underlying 22 = some (.slice 40) := by kernel_rfl
theorem bytes_of_trod {H : Type} {enc : TypeId × Value → H} {W : World} {fuel : Nat} {cs : List Value} {x : DataW H × List MemPlace}
    (h : DataW.trod enc Tryd.prog W 0 (fun _ => true) true fuel 32 cs = some x) (hsz : cs.length = 32) : ∃ l : List UInt8, cs = bcells l ∧ l.length = 32 := by
  obtain ⟨xs, m, _, _, _, hl, hel⟩ := DataW.trod_array underHz h
  have hcell : ∀ i, (hi : i < cs.length) → ∃ b : UInt8, cs[i] = bcell b := by
    intro i hi
    have hE := hel i (by omega)
    rw [cellsU8K, Nat.mul_one, List.getElem?_eq_getElem (by omega)] at hE
    obtain ⟨z, e1, _, wz⟩ := DataW.trod_int underU8K hE
    have hb : 0 ≤ z ∧ z ≤ 255 := by simpa [Lit.wf, IntKind.min, IntKind.max, IntKind.signed, IntKind.bits] using wz
    have h0 : ((cs.drop i).take 1)[0]? = some (.int .u8 z) := by rw [e1]; rfl
    refine ⟨UInt8.ofNat z.toNat, ?_⟩
    simp [hi] at h0
    rw [h0]
    unfold bcell
    congr 1
    simp
    omega
  refine ⟨(List.finRange cs.length).map fun i => Classical.choose (hcell i.1 i.2), ?_, by simp [hsz]⟩
  apply List.ext_getElem
  · simp [bcells]
  · intro i h1 h2
    simp [bcells]
    exact Classical.choose_spec (hcell i h1)
theorem key_of_trod {H : Type} {enc : TypeId × Value → H} {W : World} {fuel : Nat} {k : TypeId} {cs : List Value} {x : DataW H × List MemPlace} (hk : Tryd.prog.keyTypeAt (Tryd.prog.types.size + 1) k = true)
    (hwide : (match Tryd.prog.underlying k with | some (.array _ _) | some (.struct _) => true | _ => false) = true) (hf : (Value.agg cs.toArray).formed Tryd.prog k = true)
    (h : DataW.trod enc Tryd.prog W 0 (fun _ => true) true fuel k cs = some x) : (keyOf Tryd.prog k (.agg cs.toArray)).isSome = true := by
  have h2 := keyOf_asKey (enc := enc) (w := W) (base := 0) (sp := fun _ => true) (held := true) hk hwide hf (d := x.1) (ps := x.2) ⟨fuel, by rw [show (Value.agg cs.toArray).cells.toList = cs from rfl]; exact h⟩
  rw [h2.1]; rfl
theorem tile_of_trod {H : Type} {enc : TypeId × Value → H} {W : World} {fuel : Nat} {cs : List Value} {x : DataW H × List MemPlace}
    (h : DataW.trod enc Tryd.prog W 0 (fun _ => true) true fuel 30 cs = some x) : ∃ k : TlK, cs = kcT k ∧ kwT k := by
  have hh := h
  obtain ⟨xs, m, _, hx, hl, hlen, hel⟩ := DataW.trod_struct Tryd.underlying30 h
  rw [cellsTlK] at hl
  have f0 : DataW.trod enc Tryd.prog W 0 (fun _ => true) true m 5 ((cs.drop 0).take (Tryd.prog.cellsOf 5)) = xs[0]? := hel 0 _ rfl
  have f1 : DataW.trod enc Tryd.prog W 0 (fun _ => true) true m 28 ((cs.drop 1).take (Tryd.prog.cellsOf 28)) = xs[1]? := hel 1 _ rfl
  have f2 : DataW.trod enc Tryd.prog W 0 (fun _ => true) true m 3 ((cs.drop 2).take (Tryd.prog.cellsOf 3)) = xs[2]? := hel 2 _ rfl
  rw [cellsU8K] at f0
  rw [cellsU64K] at f1
  rw [cellsIntK] at f2
  have hl3 : xs.length = 3 := by simpa using hlen
  rw [List.getElem?_eq_getElem (by omega)] at f0 f1 f2
  obtain ⟨a, e0, _, _⟩ := DataW.trod_int underU8K f0
  obtain ⟨b, e1, _, _⟩ := DataW.trod_int underU64K f1
  obtain ⟨c, e2, _, _⟩ := DataW.trod_int underIntK f2
  match cs, hl with
  | [c0, c1, c2], _ =>
    simp only [List.drop_zero, List.take_succ_cons, List.take_zero, List.drop_succ_cons] at e0 e1 e2
    cases e0; cases e1; cases e2
    exact ⟨⟨a, b, c⟩, rfl, rfl, key_of_trod (cs := kcT ⟨a, b, c⟩) (by kernel_rfl) (by kernel_rfl) (by kernel_rfl) hh⟩
theorem formedH (cs : List Value) (h : cs.length = 32) : (Value.agg cs.toArray).formed Tryd.prog 32 = true := by
  simp only [Value.formed, underHz, cellsHaK, List.size_toArray, h]; rfl
theorem thing_of_trod {H : Type} {enc : TypeId × Value → H} {W : World} {fuel : Nat} {cs : List Value} {x : DataW H × List MemPlace}
    (h : DataW.trod enc Tryd.prog W 0 (fun _ => true) true fuel 40 cs = some x) : ∃ u : Thg, cs = kcT u.1 ++ bcells u.2 ∧ kwT u.1 ∧ u.2.length = 32 ∧ kwH u.2 := by
  obtain ⟨xs, m, _, hx, hl, hlen, hel⟩ := DataW.trod_struct Tryd.underlying40 h
  rw [cellsThK] at hl
  have f0 : DataW.trod enc Tryd.prog W 0 (fun _ => true) true m 30 ((cs.drop 0).take (Tryd.prog.cellsOf 30)) = xs[0]? := hel 0 _ rfl
  have f1 : DataW.trod enc Tryd.prog W 0 (fun _ => true) true m 32 ((cs.drop 3).take (Tryd.prog.cellsOf 32)) = xs[1]? := hel 1 _ rfl
  rw [cellsTlK] at f0
  rw [cellsHaK] at f1
  have hl3 : xs.length = 2 := by simpa using hlen
  rw [List.getElem?_eq_getElem (by omega)] at f0 f1
  obtain ⟨k, e0, hk⟩ := tile_of_trod f0
  have hs : ((cs.drop 3).take 32).length = 32 := by rw [List.length_take, List.length_drop]; omega
  obtain ⟨l, e1, hl2⟩ := bytes_of_trod f1 hs
  refine ⟨(k, l), ?_, hk, hl2, by show (bcells l).length = 32; rw [blen]; exact hl2, ?_⟩
  · show cs = kcT k ++ bcells l
    rw [← e0, ← e1, List.drop_zero, List.take_of_length_le (l := cs.drop 3) (by rw [List.length_drop]; omega), List.take_append_drop]
  · show (keyOf Tryd.prog 32 (.agg (kcH l).toArray)).isSome = true
    rw [e1] at f1
    exact key_of_trod (by kernel_rfl) (by kernel_rfl) (formedH _ (by show (bcells l).length = 32; rw [blen]; exact hl2)) f1
theorem things_of {H : Type} {enc : TypeId × Value → H} {W : World} {base : Nat} {v : Value} {d : DataW H} {p : List MemPlace} (hv' : Value.okWide Tryd.prog W .any base 22 v)
    (h : DataW.Trod enc Tryd.prog W 0 (fun _ => true) true 22 v d p) : ∃ us : List Thg, ThsC W v us := by
  obtain ⟨a0, len0, cap0, rfl⟩ := okWide_slice underThsK hv'
  obtain ⟨fuel, hf⟩ := h
  rcases Deep.open_slice underThsK hf with ⟨hcs, _⟩ | ⟨y, l, c, m, n, D, Pl, hcs, _, hl, hm, hmm, hx, hel⟩
  · simp [Value.cells] at hcs
    obtain ⟨rfl, rfl, rfl⟩ := hcs
    exact ⟨[], none, 0, rfl, Nat.le_refl _, by simp [maxLen], fun o h => (by cases h), fun h => absurd rfl h⟩
  · simp [Value.cells] at hcs
    obtain ⟨rfl, rfl, rfl⟩ := hcs
    have hmc : m = cap0 := by simpa using hmm
    subst hmc
    rw [cellsThK] at hel
    have key : ∀ i, i < len0 → ∃ u : Thg, W.cells? 0 (y.add (i * 35)) 35 = some (kcT u.1 ++ bcells u.2) ∧ kwT u.1 ∧ u.2.length = 32 ∧ kwH u.2 := fun i hi => by
      obtain ⟨cs', h1, h2⟩ := hel i (by omega)
      obtain ⟨u, rfl, h3⟩ := thing_of_trod h2
      exact ⟨u, h1, h3⟩
    refine ⟨(List.finRange len0).map fun i => Classical.choose (key i.1 i.2), some y, m, by simp, by simpa using hl, hm, fun o ho => ?_, fun hne => ?_⟩
    · obtain ⟨i, _, rfl⟩ := List.mem_map.1 ho
      exact (Classical.choose_spec (key i.1 i.2)).2
    · have hpos : 0 < len0 := by
        rcases Nat.eq_zero_or_pos len0 with h0 | h0
        · subst h0; simp at hne
        · exact h0
      obtain ⟨o0, hc0, _⟩ := key 0 hpos
      obtain ⟨_, _, g0⟩ := World.cells?_some hc0
      have c0 := g0 0 (by decide)
      rw [show (y.add (0 * 35)).add 0 = y by rw [show 0 * 35 = 0 from rfl]; rfl] at c0
      have c0' : W.cell? y = some (.int .u8 o0.1.lv) := by rw [c0]; rfl
      obtain ⟨B, off, sp⟩ := y
      have hsp : sp = none := by
        unfold World.cell? at c0'
        split at c0'
        · cases sp with
          | none => rfl
          | some _ => simp at c0'
        · cases c0'
      subst hsp
      have hall : ∀ i, (hi : i < len0) → W.rangeAt B (off + i * 35) (kcT (Classical.choose (key i hi)).1 ++ bcells (Classical.choose (key i hi)).2) := fun i hi j v hv => by
        obtain ⟨e2, e3, e4, _⟩ := Classical.choose_spec (key i hi)
        obtain ⟨_, _, g⟩ := World.cells?_some e2
        have hj : j < 35 := by
          have := (List.getElem?_eq_some_iff.1 hv).1
          rw [List.length_append, lenT, blen, e4] at this
          exact this
        have gj := g j hj
        have ha : ((⟨B, off, none⟩ : Addr).add (i * 35)).add j = ⟨B, off + i * 35 + j, none⟩ := by rw [Addr.add_mid, Addr.add_mid]
        have gj' : W.cell? ⟨B, off + i * 35 + j, none⟩ = _ := (congrArg W.cell? ha).symm.trans gj
        rw [gj', ← hv]
      refine ⟨B, off, rfl, block_lt_of_cell c0', fun i hi => ?_⟩
      have hi' : i < len0 := by simpa using hi
      have hr := hall i hi'
      simp only [List.getElem_map, List.getElem_finRange]
      refine ⟨fun j v hv => hr j v (by rw [List.getElem?_append_left (by exact (List.getElem?_eq_some_iff.1 hv).1)]; exact hv), fun j v hv => ?_⟩
      have h5 := hr (3 + j) v (by rw [List.getElem?_append_right (by rw [lenT]; omega), lenT, show 3 + j - 3 = j by omega]; exact hv)
      rw [← Nat.add_assoc] at h5
      exact h5
end Go.Proofs.YtdepmjgibenejaaDoor
