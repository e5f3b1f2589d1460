/- Texts that came in, with the bound that the form's own reach gives; the tables of ShaSums. -/
import Derived.Test.YtfoknhogclfhhaaDoorTop
import Derived.Test.YtfoknhogclfhhaaDoorIta
import Derived.SizedLaws
import Derived.LaidMore
import Derived.Stop.LaidTwo
namespace Go.Proofs.YtfoknhogclfhhaaDoor
set_option maxRecDepth 100000
open Go.ChangeShapes Go.WideShapes Go.ChangeAt Go.RowKit
theorem underSt : Tryd.prog.underlying 9 = some .string := by kernel_rfl
theorem underSts : Tryd.prog.underlying 45 = some (.slice 9) := by kernel_rfl
theorem cellsSt : Tryd.prog.cellsOf 9 = 1 := by kernel_rfl
theorem weightsAll_mem {H : Type} {P : Program} {e : TypeId} : ∀ {l : List (DataW H)} {d : DataW H}, d ∈ l → ∀ n ∈ d.weights P e, n ∈ DataW.weightsAll P e l
  | [], _, h, _, _ => by cases h
  | x :: l, d, h, n, hn => by
    rw [DataW.weightsAll, List.mem_append]
    rcases List.mem_cons.1 h with rfl | h
    · exact .inl hn
    · exact .inr (weightsAll_mem h n hn)
theorem strs_sized {H : Type} {enc : TypeId × Value → H} {W : World} {base : Nat} {v : Value} {d : DataW H} {p : List MemPlace} {ts : List TypeId} {ds : List (DataW H)} {j : Nat} (hv' : Value.okWide Tryd.prog W .any base 45 v)
    (h : DataW.Trod enc Tryd.prog W 0 (fun _ => true) true 45 v d p) (hsz : (DataW.weightsEach Tryd.prog ts ds).all (· ≤ reachBytes) = true) (hj : ts[j]? = some 45) (hd : ds[j]? = some d) :
    ∃ ss : List ByteArray, Strs W v ss ∧ ∀ s ∈ ss, s.size ≤ 140737488351232 := by
  obtain ⟨a, len, cap, rfl⟩ := okWide_slice underSts hv'
  obtain ⟨fuel, hf⟩ := h
  rcases open_strings underSts underSt cellsSt hf with ⟨hcs, _⟩ | ⟨y, l', c, ss, hcs, _, hl', hm, hz, hx, hcell, _⟩
  · simp [Value.cells] at hcs
    obtain ⟨rfl, rfl, rfl⟩ := hcs
    exact ⟨[], ⟨none, 0, rfl, Nat.le_refl _, by simp [maxLen], fun h => absurd rfl h⟩, fun s hs => by cases hs⟩
  · simp [Value.cells] at hcs
    obtain ⟨rfl, rfl, rfl⟩ := hcs
    simp only [Prod.mk.injEq] at hx
    obtain ⟨rfl, _⟩ := hx
    have hz' : ss.length = cap := by simpa using hz
    have hlen : (ss.take len).length = len := by simp; omega
    refine ⟨ss.take len, ⟨some y, cap, by rw [hlen], by rw [hlen]; exact hl', hm, fun hne => ?_⟩, fun s hs => ?_⟩
    · have hpos : 0 < len := by rw [← hlen]; exact List.length_pos_iff.2 hne
      have c0 := hcell 0 (by omega)
      rw [show y.add 0 = y from rfl] at c0
      obtain ⟨B, off, sp⟩ := y
      have hsp : sp = none := by
        unfold World.cell? at c0
        split at c0
        · cases sp with
          | none => rfl
          | some _ => simp at c0
        · cases c0
      subst hsp
      refine ⟨B, off, rfl, block_lt_of_cell c0, fun i hi => ?_⟩
      rw [hlen] at hi
      have ci := hcell i (by omega)
      have hadd : (⟨B, off, none⟩ : Addr).add i = ⟨B, off + i, none⟩ := by unfold Addr.add; split <;> simp_all
      rw [hadd] at ci
      rw [ci, List.getElem_take]
      simp [List.getD, List.getElem?_eq_getElem (show i < ss.length by omega)]
    · have hmem : (DataW.lit (.string s.data.toList) : DataW H) ∈ strs (ss.take len) := by
        unfold strs
        exact List.mem_map.2 ⟨s, hs, rfl⟩
      have h1 := weightsAll_mem (P := Tryd.prog) (e := 9) hmem s.data.toList.length (by simp [DataW.weights])
      have h2 := List.all_eq_true.1 hsz _ (DataW.weights_mem_each hj hd s.data.toList.length (by
        simp only [DataW.weights, underSts, List.mem_cons, List.mem_append]
        exact .inr (.inl h1)))
      have h3 : s.data.toList.length ≤ reachBytes := by simpa using h2
      rw [Array.length_toList] at h3
      unfold reachBytes at h3
      exact h3
theorem laid_rest {P : Program} {W : World} : ∀ (n : Nat) {l : List (String × DataW Unit)}, laidMet P l W → laidMet P (l.drop n) W
  | 0, _, h => h
  | _ + 1, [], h => h
  | n + 1, _ :: _, h => laid_rest n h.tail
theorem gPow : Tryd.prog.globalNamed "internal/strconv.uint64pow10" = some 1 := by kernel_rfl
theorem gPowType : (Tryd.prog.globals[1]?).map (·.type) = some 85 := by kernel_rfl
theorem cellsPow : Tryd.prog.cellsOf 85 = 20 := by kernel_rfl
theorem cellsU64 : Tryd.prog.cellsOf 47 = 1 := by kernel_rfl
theorem underU64 : Tryd.prog.underlying 47 = some (.int .u64) := by kernel_rfl
theorem under20 : Tryd.prog.underlying 85 = some (.array 20 47) := by kernel_rfl
theorem tabs_of {W : World} (h : laidMet Tryd.prog [("math/bits.deBruijn32tab", Rows.laid_math_bits_deBruijn32tab), ("math/bits.deBruijn64tab", Rows.laid_math_bits_deBruijn64tab), ("internal/strconv.uint64pow10", Rows.laid_internal_strconv_uint64pow10), ("cartulary/sha.table", Rows.laid_cartulary_sha_table)] W) : Tab W ∧ TabI W :=
  ⟨tab_of_is (Lib.tabIs_of_head (rest := []) gTab gTabType under64 underU32 cellsU32 cellsTab (laid_rest 3 h)),
    Lib.tabIs_of_head (rest := [("cartulary/sha.table", Rows.laid_cartulary_sha_table)]) gPow gPowType under20 underU64 cellsU64 cellsPow (laid_rest 2 h)⟩
end Go.Proofs.YtfoknhogclfhhaaDoor
