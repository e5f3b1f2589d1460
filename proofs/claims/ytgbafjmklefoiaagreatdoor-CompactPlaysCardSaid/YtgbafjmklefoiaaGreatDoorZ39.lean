/- The sixteen errors out of a row's list of laid variables. What the laws' frames over hashes need: the table and the errors out of a row's list; hashes out of a reading. A slice of hashes that came in. -/
import Derived.Test.YtgbafjmklefoiaaGreatDoorZ04
import Derived.Test.YtgbafjmklefoiaaGreatDoorRows
import Derived.Stop.LaidErr
import Derived.LaidHandle
import Derived.Test.YtgbafjmklefoiaaGreatDoorCards
import Derived.Test.YtgbafjmklefoiaaGreatDoorTie
import Derived.WalkKit
import Derived.ProofKit
import Derived.OpenShut
import Derived.LaidMore
import Derived.Deep.DeepHandedRow
import Derived.Lib.LaidTab
import Derived.Below
import Derived.Test.YtgbafjmklefoiaaGreatDoorZ05
import Derived.Test.YtgbafjmklefoiaaGreatDoorZ08
section
namespace Go.Proofs.YtgbafjmklefoiaaGreatDoor
set_option maxRecDepth 100000
open Go.RowKit Go.ChangeShapes
def errLaid : List (String × DataW Unit) := [("cartulary/api.ErrNil", Rows.laid_cartulary_api_ErrNil), ("cartulary/api.ErrArg", Rows.laid_cartulary_api_ErrArg), ("cartulary/api.ErrInput", Rows.laid_cartulary_api_ErrInput), ("cartulary/api.ErrLimit", Rows.laid_cartulary_api_ErrLimit), ("cartulary/api.ErrRange", Rows.laid_cartulary_api_ErrRange), ("cartulary/api.ErrGone", Rows.laid_cartulary_api_ErrGone), ("cartulary/api.ErrUnavailable", Rows.laid_cartulary_api_ErrUnavailable), ("cartulary/api.ErrDead", Rows.laid_cartulary_api_ErrDead), ("cartulary/api.ErrCorrupt", Rows.laid_cartulary_api_ErrCorrupt), ("cartulary/api.ErrProof", Rows.laid_cartulary_api_ErrProof), ("cartulary/api.ErrSpent", Rows.laid_cartulary_api_ErrSpent), ("cartulary/api.ErrSigned", Rows.laid_cartulary_api_ErrSigned), ("cartulary/api.ErrFork", Rows.laid_cartulary_api_ErrFork), ("cartulary/api.ErrOld", Rows.laid_cartulary_api_ErrOld), ("cartulary/api.ErrStopped", Rows.laid_cartulary_api_ErrStopped), ("cartulary/api.ErrScript", Rows.laid_cartulary_api_ErrScript)]
def etext (k : Nat) : List UInt8 := [[97, 110, 32, 111, 98, 106, 101, 99, 116, 32, 116, 104, 97, 116, 32, 105, 115, 32, 110, 111, 116, 32, 116, 104, 101, 114, 101], [97, 110, 32, 97, 114, 103, 117, 109, 101, 110, 116, 32, 116, 104, 97, 116, 32, 109, 97, 121, 32, 110, 111, 116, 32, 98, 101], [97, 110, 32, 105, 110, 112, 117, 116, 32, 116, 104, 97, 116, 32, 105, 115, 32, 110, 111, 110, 101, 32, 111, 102, 32, 116, 104, 111, 115, 101, 32, 116, 104, 97, 116, 32, 109, 97, 121, 32, 98, 101], [97, 98, 111, 118, 101, 32, 97, 32, 108, 105, 109, 105, 116], [110, 111, 32, 115, 117, 99, 104, 32, 108, 101, 97, 102, 44, 32, 115, 105, 122, 101, 32, 111, 114, 32, 115, 116, 114, 101, 116, 99, 104], [110, 111, 116, 104, 105, 110, 103, 32, 111, 102, 32, 116, 104, 97, 116, 32, 110, 97, 109, 101], [105, 116, 32, 99, 111, 117, 108, 100, 32, 110, 111, 116, 32, 98, 101, 32, 114, 101, 97, 100], [116, 104, 101, 32, 115, 116, 111, 114, 101, 32, 104, 97, 115, 32, 99, 114, 97, 115, 104, 101, 100], [119, 104, 97, 116, 32, 108, 105, 101, 115, 32, 105, 110, 32, 116, 104, 101, 32, 115, 116, 111, 114, 101, 32, 105, 115, 32, 110, 111, 32, 108, 111, 103], [105, 116, 32, 100, 111, 101, 115, 32, 110, 111, 116, 32, 112, 114, 111, 118, 101, 32, 116, 104, 97, 116], [110, 111, 32, 107, 101, 121, 32, 105, 115, 32, 108, 101, 102, 116], [110, 111, 116, 32, 115, 105, 103, 110, 101, 100, 32, 98, 121, 32, 119, 104, 111, 109, 32, 105, 116, 32, 115, 104, 111, 117, 108, 100, 32, 98, 101], [116, 119, 111, 32, 108, 111, 103, 115, 32, 111, 102, 32, 111, 110, 101, 32, 110, 97, 109, 101], [111, 108, 100, 101, 114, 32, 116, 104, 97, 110, 32, 119, 104, 97, 116, 32, 105, 115, 32, 107, 110, 111, 119, 110], [115, 116, 111, 112, 112, 101, 100], [110, 111, 32, 115, 99, 114, 105, 112, 116]].getD k []
theorem etext_inj : ∀ i, i < 16 → ∀ j, j < 16 → etext i = etext j → i = j := by decide +kernel
theorem laid_drop {P : Program} {W : World} : ∀ (n : Nat) {l : List (String × DataW Unit)}, laidMet P l W → laidMet P (l.drop n) W
  | 0, _, h => h
  | _ + 1, [], h => h
  | n + 1, _ :: _, h => laid_drop n h.tail
theorem er_star : "*" ++ "errors.errorString" = "*errors.errorString" := by decide
theorem er_row (u : TypeId) (h : Tryz.prog.typeName? 3 u = some "*errors.errorString") : u = 282 :=
  typeName_ptr_named (nm := "errors.errorString") (by rw [er_star]; kernel_rfl) (by kernel_rfl) (by decide) u (by rw [er_star]; exact h)
theorem er_cellsS : Tryz.prog.cellsOf 304 = 1 := by kernel_rfl
theorem er_cellsStr : Tryz.prog.cellsOf 9 = 1 := by kernel_rfl
/-- what the list says of one of them -/
theorem er_sent {n : String} {text : List UInt8} {r : List (String × DataW Unit)} {W : World} {g : Nat}
    (h : laidMet Tryz.prog ((n, .iface "*errors.errorString" (.ptr (.agg [.lit (.string text)]))) :: r) W)
    (hg : Tryz.prog.globalNamed n = some g) (ht : (Tryz.prog.globals[g]?).map (·.type) = some 71) :
    ∃ a : Addr, W.cell? ⟨g, 0, none⟩ = some (.iface 282 (.pointer (some a))) ∧ (∃ s : ByteArray, W.cell? a = some (.string s) ∧ s.data.toList = text) ∧ ∃ c t, W.heap[a.block]? = some (.cells c t (0, 0)) := by
  obtain ⟨ps, ⟨g0, t0, cs0, f0, p0, q0, hg0, ht0, hv0, hd0, _, e0⟩, _, hrows⟩ := h
  obtain rfl := Option.some.inj (hg.symm.trans hg0)
  obtain rfl := Option.some.inj (ht.symm.trans ht0)
  subst e0
  obtain ⟨l0⟩ := cs0
  have ok0 : ∀ u v, l0 = [.iface u v] → Value.okWide Tryz.prog W .any 0 u v := fun u v e => by
    subst e
    exact (hrows g 0 (by simp [MemPlace.row])).2 u v (by simpa using World.var?_cell hg0 hv0 0)
  obtain ⟨a0, s0, rfl, hc0, hs0, hz0, rfl⟩ := errorString_of_trod Tryz.underlying71 er_row Tryz.underlying282 Tryz.underlying304 rfl rfl Tryz.underlying9 er_cellsS er_cellsStr hd0 ok0
  exact ⟨a0, by simpa using World.var?_cell hg0 hv0 0, ⟨s0, hc0, hs0⟩, (hrows a0.block a0.off (by simp [MemPlace.row])).1⟩
theorem errs_each {post : List (String × DataW Unit)} {W : World} (h : laidMet Tryz.prog (errLaid ++ post) W) (k : Nat) (hk : k < 16) :
    ∃ a : Addr, W.cell? ⟨eg k, 0, none⟩ = some (.iface 282 (.pointer (some a))) ∧ (∃ s : ByteArray, W.cell? a = some (.string s) ∧ s.data.toList = etext k) ∧ ∃ c t, W.heap[a.block]? = some (.cells c t (0, 0)) := by
  match k, hk with
  | 0, _ => exact er_sent (n := "cartulary/api.ErrNil") (text := etext 0) (g := 1) (laid_drop 0 h) (by kernel_rfl) (by kernel_rfl)
  | 1, _ => exact er_sent (n := "cartulary/api.ErrArg") (text := etext 1) (g := 0) (laid_drop 1 h) (by kernel_rfl) (by kernel_rfl)
  | 2, _ => exact er_sent (n := "cartulary/api.ErrInput") (text := etext 2) (g := 5) (laid_drop 2 h) (by kernel_rfl) (by kernel_rfl)
  | 3, _ => exact er_sent (n := "cartulary/api.ErrLimit") (text := etext 3) (g := 2) (laid_drop 3 h) (by kernel_rfl) (by kernel_rfl)
  | 4, _ => exact er_sent (n := "cartulary/api.ErrRange") (text := etext 4) (g := 3) (laid_drop 4 h) (by kernel_rfl) (by kernel_rfl)
  | 5, _ => exact er_sent (n := "cartulary/api.ErrGone") (text := etext 5) (g := 6) (laid_drop 5 h) (by kernel_rfl) (by kernel_rfl)
  | 6, _ => exact er_sent (n := "cartulary/api.ErrUnavailable") (text := etext 6) (g := 7) (laid_drop 6 h) (by kernel_rfl) (by kernel_rfl)
  | 7, _ => exact er_sent (n := "cartulary/api.ErrDead") (text := etext 7) (g := 8) (laid_drop 7 h) (by kernel_rfl) (by kernel_rfl)
  | 8, _ => exact er_sent (n := "cartulary/api.ErrCorrupt") (text := etext 8) (g := 9) (laid_drop 8 h) (by kernel_rfl) (by kernel_rfl)
  | 9, _ => exact er_sent (n := "cartulary/api.ErrProof") (text := etext 9) (g := 10) (laid_drop 9 h) (by kernel_rfl) (by kernel_rfl)
  | 10, _ => exact er_sent (n := "cartulary/api.ErrSpent") (text := etext 10) (g := 11) (laid_drop 10 h) (by kernel_rfl) (by kernel_rfl)
  | 11, _ => exact er_sent (n := "cartulary/api.ErrSigned") (text := etext 11) (g := 12) (laid_drop 11 h) (by kernel_rfl) (by kernel_rfl)
  | 12, _ => exact er_sent (n := "cartulary/api.ErrFork") (text := etext 12) (g := 13) (laid_drop 12 h) (by kernel_rfl) (by kernel_rfl)
  | 13, _ => exact er_sent (n := "cartulary/api.ErrOld") (text := etext 13) (g := 14) (laid_drop 13 h) (by kernel_rfl) (by kernel_rfl)
  | 14, _ => exact er_sent (n := "cartulary/api.ErrStopped") (text := etext 14) (g := 15) (laid_drop 14 h) (by kernel_rfl) (by kernel_rfl)
  | 15, _ => exact er_sent (n := "cartulary/api.ErrScript") (text := etext 15) (g := 16) (laid_drop 15 h) (by kernel_rfl) (by kernel_rfl)
  | n + 16, h => omega
theorem er_et : Tryz.prog.globalNamed "errors.errorType" = some 17 := by kernel_rfl
theorem er_rt : (Tryz.prog.cutTypes.find? (·.1 == "internal/reflectlite.rtype")).map (·.2) = some 256 := by kernel_rfl
theorem er_oneRow : ((List.range Tryz.prog.types.size).filter fun t => Tryz.prog.rowNamed t [101, 114, 114, 111, 114]) = [71] := by kernel_rfl
theorem er_type {W : World} {l : List (String × DataW Unit)} (h : handlesMet Tryz.prog (("errors.errorType", Rows.laid_errors_errorType) :: l) W) :
    W.cell? ⟨17, 0, none⟩ = some (.iface 256 (.agg #[.pointer (some ⟨21, 71, none⟩)])) := by
  obtain ⟨name, u, ty, e1, e2, e3, e4, e5⟩ := h _ (List.mem_cons_self ..)
  have en : name = [101, 114, 114, 111, 114] := (Option.some.inj e1).symm
  subst en
  obtain rfl := Option.some.inj (er_rt.symm.trans e2)
  have hm : ty ∈ (List.range Tryz.prog.types.size).filter fun t => Tryz.prog.rowNamed t [101, 114, 114, 111, 114] := List.mem_filter.2 ⟨List.mem_range.2 e3, e4⟩
  rw [er_oneRow] at hm
  obtain rfl := List.mem_singleton.1 hm
  have hh : typeHandle Tryz.prog 71 = .pointer (some ⟨21, 71, none⟩) := by kernel_rfl
  rw [hh] at e5
  simpa using World.var?_cell er_et e5 0
open Classical in
theorem errs_of {post l : List (String × DataW Unit)} {W : World} (h : laidMet Tryz.prog (errLaid ++ post) W) (hh : handlesMet Tryz.prog (("errors.errorType", Rows.laid_errors_errorType) :: l) W) : ∃ A, Errs W A := by
  refine ⟨fun k => if hk : k < 16 then Classical.choose (errs_each h k hk) else ⟨0, 0, none⟩, fun k hk => ?_, fun k hk => ?_, fun i j hi hj he => ?_, er_type hh⟩
  · rw [dif_pos hk]
    exact (Classical.choose_spec (errs_each h k hk)).1
  · rw [dif_pos hk]
    exact (Classical.choose_spec (errs_each h k hk)).2.2
  · simp only [dif_pos hi, dif_pos hj] at he
    obtain ⟨s, h1, h2⟩ := (Classical.choose_spec (errs_each h i hi)).2.1
    obtain ⟨t, h3, h4⟩ := (Classical.choose_spec (errs_each h j hj)).2.1
    rw [he, h3] at h1
    cases h1
    exact etext_inj i hi j hj (h2.symm.trans h4)
end Go.Proofs.YtgbafjmklefoiaaGreatDoor
end
section
namespace Go.Proofs.YtgbafjmklefoiaaGreatDoor
set_option maxRecDepth 100000
open Go.ChangeShapes Go.WideShapes Go.ChangeAt Go.RowKit
theorem own : ownKnob Tryz.prog.godebug = none := by kernel_rfl
theorem laidOut : laidOutB Tryz.prog = true := by kernel_rfl
theorem gTab : Tryz.prog.globalNamed "cartulary/sha.table" = some 18 := by kernel_rfl
theorem gTabType : (Tryz.prog.globals[18]?).map (·.type) = some 228 := by kernel_rfl
theorem cellsTab : Tryz.prog.cellsOf 228 = 64 := by kernel_rfl
theorem cellsU32 : Tryz.prog.cellsOf 227 = 1 := by kernel_rfl
theorem cellsU8 : Tryz.prog.cellsOf 5 = 1 := by kernel_rfl
theorem underU8 : Tryz.prog.underlying 5 = some (.int .u8) := by kernel_rfl
theorem underU32 : Tryz.prog.underlying 227 = some (.int .u32) := by kernel_rfl
theorem tab_of_is {W : World} (h : Lib.TabIs Tryz.prog W "cartulary/sha.table" .u32 ktab) : Tab W := fun t ht => h.cell gTab t (by rw [show ktab.length = 64 from rfl]; exact ht)
theorem tab_lt {W : World} (h : Tab W) : 18 < W.heap.size := block_lt_of_cell (h 0 (by decide))
/-- the list of a law of chapter 05, without the handle -/
theorem hs_of {W : World} {l : List (String × DataW Unit)} (h : laidMet Tryz.prog (errLaid ++ [("cartulary/sha.table", Rows.laid_cartulary_sha_table)]) W) (hh : handlesMet Tryz.prog (("errors.errorType", Rows.laid_errors_errorType) :: l) W) : ∃ A, Hs A W := by
  obtain ⟨A, hE⟩ := errs_of h hh
  have ht := tab_of_is (Lib.tabIs_of_head (rest := []) gTab gTabType under64 underU32 cellsU32 cellsTab (laid_drop 16 h))
  exact ⟨A, ⟨ht, tab_lt ht⟩, hE⟩
end Go.Proofs.YtgbafjmklefoiaaGreatDoor
end
section
namespace Go.Proofs.YtgbafjmklefoiaaGreatDoor
set_option maxRecDepth 100000
open Go.ChangeShapes Go.WideShapes Go.ChangeAt Go.RowKit
end Go.Proofs.YtgbafjmklefoiaaGreatDoor
end
