/- Ops of four ranges that came in; tables and errors out of a row's list. -/
import Derived.Test.YtgbafjmklefoiaaGreatDoorZ38
import Derived.Test.YtgbafjmklefoiaaGreatDoorZ39
import Derived.Deep.Slices
import Derived.SizedLaws
import Derived.LaidMore
namespace Go.Proofs.YtgbafjmklefoiaaGreatDoor
set_option maxRecDepth 100000
open Go.ChangeShapes Go.WideShapes Go.ChangeAt Go.RowKit
theorem cellsOpC : Tryz.prog.cellsOf 57 = 7 := by kernel_rfl
theorem cellsIntE : Tryz.prog.cellsOf 3 = 1 := by kernel_rfl
theorem cellsU64E : Tryz.prog.cellsOf 32 = 1 := by kernel_rfl
theorem cellsHsE : Tryz.prog.cellsOf 55 = 1 := by kernel_rfl
theorem underIntE : Tryz.prog.underlying 3 = some (.int .i64) := by kernel_rfl
theorem underU64E : Tryz.prog.underlying 32 = some (.int .u64) := by kernel_rfl
theorem underOpsC : Tryz.prog.underlying 22 = some (.slice 57) := by kernel_rfl
theorem bytesHE : Tryz.prog.bytesOf 81 = 32 := by kernel_rfl
theorem gTabE : Tryz.prog.globalNamed "math/bits.deBruijn64tab" = some 4 := by kernel_rfl
theorem gTabEType : (Tryz.prog.globals[4]?).map (·.type) = some 217 := by kernel_rfl
theorem cellsTabE : Tryz.prog.cellsOf 217 = 64 := by kernel_rfl
theorem under64E : Tryz.prog.underlying 217 = some (.array 64 5) := by kernel_rfl
def dtabE : List Int := Lib.deBruijn64tab.map fun (n : Nat) => (n : Int)
theorem tabz_of_isE {W : World} (h : Lib.TabIs Tryz.prog W "math/bits.deBruijn64tab" .u8 dtabE) : TabZ W := fun t ht => by
  have := h.cell gTabE t (by unfold dtabE; rw [List.length_map]; exact ht)
  rw [this]
  unfold dtabE
  simp [List.getD, List.getElem?_map, List.getElem?_eq_getElem ht]
theorem ec9_of {W : World} {l : List (String × DataW Unit)} (h : laidMet Tryz.prog (("math/bits.deBruijn32tab", Rows.laid_math_bits_deBruijn32tab) :: ("math/bits.deBruijn64tab", Rows.laid_math_bits_deBruijn64tab) :: ("internal/strconv.uint64pow10", Rows.laid_internal_strconv_uint64pow10) :: (errLaid ++ [("cartulary/sha.table", Rows.laid_cartulary_sha_table)])) W) (hh : handlesMet Tryz.prog (("errors.errorType", Rows.laid_errors_errorType) :: l) W) : ∃ A, Ec9 A W := by
  obtain ⟨A, hS⟩ := hs_of (laid_drop 3 h) hh
  have hz := tabz_of_isE (Lib.tabIs_of_head (rest := ("internal/strconv.uint64pow10", Rows.laid_internal_strconv_uint64pow10) :: (errLaid ++ [("cartulary/sha.table", Rows.laid_cartulary_sha_table)])) gTabE gTabEType under64E underU8 cellsU8 cellsTabE (laid_drop 1 h))
  exact ⟨A, ⟨hS.2, hS.1, hz, block_lt_of_cell (hz 0 (by decide))⟩⟩
theorem weightsAll_memE {H : Type} {P : Program} {e : TypeId} : ∀ {l : List (DataW H)} {d : DataW H}, d ∈ l → ∀ n ∈ d.weights P e, n ∈ DataW.weightsAll P e l
  | [], _, h, _, _ => by cases h
  | x :: l, d, h, n, hn => by
    rw [DataW.weightsAll, List.mem_append]
    rcases List.mem_cons.1 h with rfl | h
    · exact .inl hn
    · exact .inr (weightsAll_memE h n hn)
theorem cellsSpE : Tryz.prog.cellsOf 54 = 2 := by kernel_rfl
theorem span_of_trod {H : Type} {enc : TypeId × Value → H} {W : World} {fuel : Nat} {cs : List Value} {x : DataW H × List MemPlace}
    (h : DataW.trod enc Tryz.prog W 0 (fun _ => true) true fuel 54 cs = some x) : ∃ b e : Nat, cs = [.int .u64 (b : Int), .int .u64 (e : Int)] := by
  obtain ⟨xs, m, _, hx, hl, hlen, hel⟩ := DataW.trod_struct Tryz.underlying54 h
  rw [cellsSpE] at hl
  have f0 : DataW.trod enc Tryz.prog W 0 (fun _ => true) true m 32 ((cs.drop 0).take (Tryz.prog.cellsOf 32)) = xs[0]? := hel 0 _ rfl
  have f1 : DataW.trod enc Tryz.prog W 0 (fun _ => true) true m 32 ((cs.drop 1).take (Tryz.prog.cellsOf 32)) = xs[1]? := hel 1 _ rfl
  rw [cellsU64E] at f0 f1
  have hl3 : xs.length = 2 := by simpa using hlen
  rw [List.getElem?_eq_getElem (by omega)] at f0 f1
  obtain ⟨a, e0, _, wa⟩ := DataW.trod_int underU64E f0
  obtain ⟨b, e1, _, wb⟩ := DataW.trod_int underU64E f1
  match cs, hl with
  | [c0, c1], _ =>
    simp only [List.drop_zero, List.take_succ_cons, List.take_zero, List.drop_succ_cons] at e0 e1
    cases e0; cases e1
    have ha : 0 ≤ a ∧ a < 18446744073709551616 := by simp [Lit.wf, IntKind.min, IntKind.max, IntKind.signed, IntKind.bits] at wa; omega
    have hb : 0 ≤ b ∧ b < 18446744073709551616 := by simp [Lit.wf, IntKind.min, IntKind.max, IntKind.signed, IntKind.bits] at wb; omega
    exact ⟨a.toNat, b.toNat, by rw [Int.toNat_of_nonneg ha.1, Int.toNat_of_nonneg hb.1]⟩
theorem opc_of_trod {H : Type} {enc : TypeId × Value → H} {W : World} {fuel : Nat} {cs : List Value} {x : DataW H × List MemPlace}
    (h : DataW.trod enc Tryz.prog W 0 (fun _ => true) true fuel 57 cs = some x) :
    ∃ u : OpC, cs = opcs u ∧ u.nn < 2 ^ 64 ∧ Hss W (.slice u.ha u.hl u.hc) u.hs ∧ (u.ha = none → u.hc = 0 ∧ u.hl = 0) ∧ ∀ bnd, (∀ k ∈ x.1.weights Tryz.prog 57, k ≤ bnd) → u.hl * 32 ≤ bnd := by
  obtain ⟨xs, m, _, hx, hl, hlen, hel⟩ := DataW.trod_struct Tryz.underlying57 h
  rw [cellsOpC] at hl
  have f0 : DataW.trod enc Tryz.prog W 0 (fun _ => true) true m 3 ((cs.drop 0).take (Tryz.prog.cellsOf 3)) = xs[0]? := hel 0 _ rfl
  have f1 : DataW.trod enc Tryz.prog W 0 (fun _ => true) true m 3 ((cs.drop 1).take (Tryz.prog.cellsOf 3)) = xs[1]? := hel 1 _ rfl
  have f2 : DataW.trod enc Tryz.prog W 0 (fun _ => true) true m 3 ((cs.drop 2).take (Tryz.prog.cellsOf 3)) = xs[2]? := hel 2 _ rfl
  have f3 : DataW.trod enc Tryz.prog W 0 (fun _ => true) true m 32 ((cs.drop 3).take (Tryz.prog.cellsOf 32)) = xs[3]? := hel 3 _ rfl
  have f4 : DataW.trod enc Tryz.prog W 0 (fun _ => true) true m 54 ((cs.drop 4).take (Tryz.prog.cellsOf 54)) = xs[4]? := hel 4 _ rfl
  have f5 : DataW.trod enc Tryz.prog W 0 (fun _ => true) true m 55 ((cs.drop 6).take (Tryz.prog.cellsOf 55)) = xs[5]? := hel 5 _ rfl
  rw [cellsIntE] at f0 f1 f2
  rw [cellsU64E] at f3
  rw [cellsSpE] at f4
  rw [cellsHsE] at f5
  have hl3 : xs.length = 6 := by simpa using hlen
  rw [List.getElem?_eq_getElem (by omega)] at f0 f1 f2 f3 f4 f5
  obtain ⟨a, e0, _, _⟩ := DataW.trod_int underIntE f0
  obtain ⟨b, e1, _, _⟩ := DataW.trod_int underIntE f1
  obtain ⟨b2, e2, _, _⟩ := DataW.trod_int underIntE f2
  obtain ⟨c, e3, _, wc⟩ := DataW.trod_int underU64E f3
  obtain ⟨sb, se, e4⟩ := span_of_trod f4
  match cs, hl with
  | [c0, c1, c2, c3, c4, c5, c6], _ =>
    simp only [List.drop_zero, List.take_succ_cons, List.take_zero, List.drop_succ_cons] at e0 e1 e2 e3 e4 f5
    cases e0; cases e1; cases e2; cases e3; cases e4
    have hc : 0 ≤ c ∧ c < 18446744073709551616 := by simp [Lit.wf, IntKind.min, IntKind.max, IntKind.signed, IntKind.bits] at wc; omega
    obtain ⟨c, rfl⟩ : ∃ k : Nat, c = (k : Int) := ⟨c.toNat, by omega⟩
    have hc2 : c < 2 ^ 64 := by omega
    have hw : ∀ k ∈ (xs[5].1).weights Tryz.prog 55, k ∈ x.1.weights Tryz.prog 57 := fun k hk => by
      rw [hx]
      simp only [DataW.weights, Tryz.underlying57]
      exact DataW.weights_mem_each (j := 5) (t := 55) (d := xs[5].1) rfl (by rw [List.getElem?_map, List.getElem?_eq_getElem (by omega)]; rfl) k hk
    obtain ⟨v, hs, e6, hss⟩ := hss_of_trod f5
    have e7 : c6 = v := by simpa using e6
    subst e7
    rcases Deep.open_slice underHs f5 with ⟨hcs, _⟩ | ⟨y, l, cp, m2, n2, D, Pl, hcs, _, hl2, hm2, hmm, hx2, hel2⟩
    · have e8 : c6 = .slice none 0 0 := by simpa using hcs
      subst e8
      exact ⟨⟨a, b, b2, c, sb, se, none, 0, 0, hs⟩, rfl, hc2, hss, fun _ => ⟨rfl, rfl⟩, fun _ _ => Nat.zero_le _⟩
    · have e8 : c6 = .slice (some y) l cp := by simpa using hcs
      subst e8
      refine ⟨⟨a, b, b2, c, sb, se, some y, l, cp, hs⟩, rfl, hc2, hss, (fun e => by cases e), fun bnd hb => ?_⟩
      have h1 := hb _ (hw ((((List.range l).map D).length + ((List.range (m2 - l)).map fun i => D (l + i)).length) * 32) (by
        rw [hx2]
        simp [DataW.weights, bytesHE]))
      simp at h1
      show l * 32 ≤ bnd
      omega

theorem opsR_sized {H : Type} {enc : TypeId × Value → H} {W : World} {base : Nat} {v : Value} {d : DataW H} {p : List MemPlace} {ts : List TypeId} {ds : List (DataW H)} {j : Nat} (hv' : Value.okWide Tryz.prog W .any base 22 v)
    (h : DataW.Trod enc Tryz.prog W 0 (fun _ => true) true 22 v d p) (hsz : (DataW.weightsEach Tryz.prog ts ds).all (· ≤ reachBytes) = true) (hj : ts[j]? = some 22) (hd : ds[j]? = some d) :
    ∃ os : List OpC, OpsC W v os := by
  obtain ⟨a0, len0, cap0, rfl⟩ := okWide_slice underOpsC hv'
  obtain ⟨fuel, hf⟩ := h
  rcases Deep.open_slice underOpsC hf with ⟨hcs, _⟩ | ⟨y, l, c, m, n, D, Pl, hcs, _, hl, hm, hmm, hx, hel⟩
  · simp [Value.cells] at hcs
    obtain ⟨rfl, rfl, rfl⟩ := hcs
    exact ⟨[], none, 0, rfl, Nat.le_refl _, by simp [maxLen], fun o h => (by cases h), fun h => absurd rfl h⟩
  · simp [Value.cells] at hcs
    obtain ⟨rfl, rfl, rfl⟩ := hcs
    simp only [Prod.mk.injEq] at hx
    obtain ⟨rfl, _⟩ := hx
    have hmc : m = cap0 := by simpa using hmm
    subst hmc
    rw [cellsOpC] at hel
    have key : ∀ i, i < len0 → ∃ o : OpC, W.cells? 0 (y.add (i * 7)) 7 = some (opcs o) ∧ o.nn < 2 ^ 64 ∧ Hss W (.slice o.ha o.hl o.hc) o.hs ∧ (o.ha = none → o.hc = 0 ∧ o.hl = 0) ∧ o.hl ≤ 4398046510976 := fun i hi => by
      obtain ⟨cs', h1, h2⟩ := hel i (by omega)
      obtain ⟨o, rfl, h3, h3b, h3c, h4⟩ := opc_of_trod h2
      refine ⟨o, h1, h3, h3b, h3c, ?_⟩
      have := h4 reachBytes (fun k hk => by
        have h5 := weightsAll_memE (P := Tryz.prog) (e := 57) (l := (List.range len0).map D) (d := D i) (List.mem_map.2 ⟨i, List.mem_range.2 hi, rfl⟩) k hk
        have h6 := List.all_eq_true.1 hsz _ (DataW.weights_mem_each hj hd k (by
          simp only [DataW.weights, underOpsC, List.mem_cons, List.mem_append]
          exact .inr (.inl h5)))
        simpa using h6)
      unfold reachBytes at this
      omega
    refine ⟨(List.finRange len0).map fun i => Classical.choose (key i.1 i.2), some y, m, by simp, by simpa using hl, hm, fun o ho => ?_, fun hne => ?_⟩
    · obtain ⟨i, _, rfl⟩ := List.mem_map.1 ho
      exact (Classical.choose_spec (key i.1 i.2)).2
    · have hpos : 0 < len0 := by
        rcases Nat.eq_zero_or_pos len0 with h0 | h0
        · subst h0; simp at hne
        · exact h0
      obtain ⟨o0, hc0, _⟩ := key 0 hpos
      obtain ⟨_, _, g0⟩ := World.cells?_some hc0
      have c0 := g0 0 (by decide)
      rw [show (y.add (0 * 7)).add 0 = y by rw [show 0 * 7 = 0 from rfl]; rfl] at c0
      have c0' : W.cell? y = some (.int .i64 o0.kd) := by rw [c0]; rfl
      obtain ⟨B, off, sp⟩ := y
      have hsp : sp = none := by
        unfold World.cell? at c0'
        split at c0'
        · cases sp with
          | none => rfl
          | some _ => simp at c0'
        · cases c0'
      subst hsp
      refine ⟨B, off, rfl, block_lt_of_cell c0', fun i hi j v hv => ?_⟩
      have hi' : i < len0 := by simpa using hi
      obtain ⟨e2, _⟩ := Classical.choose_spec (key i hi')
      obtain ⟨_, _, g⟩ := World.cells?_some e2
      have hj : j < 7 := by
        have := (List.getElem?_eq_some_iff.1 hv).1
        simpa [opcs] using this
      have gj := g j hj
      have ha : ((⟨B, off, none⟩ : Addr).add (i * 7)).add j = ⟨B, off + i * 7 + j, none⟩ := by rw [Addr.add_mid, Addr.add_mid]
      have gj' : W.cell? ⟨B, off + i * 7 + j, none⟩ = _ := (congrArg W.cell? ha).symm.trans gj
      rw [gj', ← hv]
      simp
end Go.Proofs.YtgbafjmklefoiaaGreatDoor
