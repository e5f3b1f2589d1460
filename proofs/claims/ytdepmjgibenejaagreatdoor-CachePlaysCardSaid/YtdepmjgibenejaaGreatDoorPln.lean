/- cartularyref02.Plain, and the results of a function that tells a value and a fault. -/
import Derived.Test.YtdepmjgibenejaaGreatDoorErrC
namespace Go.Proofs.YtdepmjgibenejaaGreatDoor
set_option maxRecDepth 100000
open Go.RowKit
theorem plainP_any (w : World) (c : Int) (hc : c ≠ 0) : Calls Tryz.prog 8 #[.int .i64 c] w fun e w' => e = .returned (.agg #[.int .i64 c, .int .i64 (-1)]) ∧ Below w.heap.size w w' := by
  have hc' : (c == 0) = false := by simpa using hc
  clear hc
  go_enter Tryz.func8, Tryz.ntmps8
  go_wp2_with fail
  exact bodyPost_ret (results_cell_row rfl _ _ w.heap.size _ #[.int .i64 c, .int .i64 (-1)] _ _ rfl (heap_alloc_new _ _) Tryz.underlying35 rfl (by kernel_rfl)) rfl ⟨rfl, er_al (Below.refl _ _) _⟩
theorem res_tf {fn : Func} {p u : Tmp} {ty : TypeId} {P : Program} (h : fn.results = #[.tmp u, .cell p ty]) (tmps : Array Value) (w : World) (g : Nat) (t : TypeId) (cs : Array Value) (fr : Nat × Nat) (f : Array Field)
    (hp : tmps.getD p undef = .pointer (some ⟨g, 0, none⟩)) (hg : w.heap[g]? = some (.cells cs t fr))
    (hu : P.underlying ty = some (.struct f)) (hi : (P.info? ty).map (·.size) = some cs.size) :
    (results fn tmps).run P w = .ok (.tuple #[tmps.getD u undef, .agg cs]) w := by
  have hl := run_loadVar_row (P := P) w g t ty cs fr (.struct f) hg hu rfl hi
  have hp' : tmps[p]?.getD undef = .pointer (some ⟨g, 0, none⟩) := by simpa using hp
  simp [results, h, hp', asAddr, hl, Result.andThen]
end Go.Proofs.YtdepmjgibenejaaGreatDoor
