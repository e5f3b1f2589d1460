/-
  DERIVED. GIVEN WITH THE SEED: THE PROGRAM's TIES (one call each: nine closed facts by the kernel) AND EACH ROW's TIE, after the 31st guide's Derived/Test/Toyas{Tie, Card}.lean. No idea stands in it: it is a product of the set-up. Laid BY PROGRAM, IN A SANDBOX (cutbox-door.mjs). By AI agents, Wed Nov 11 2026. No macro, syntax, notation, axiom, sorry.
-/
import Derived.Test.YtdepmjgibenejaaDoorRows
import Derived.LaidByTextLater
import Derived.SevenTiedAt
import Derived.LaidSub
import Derived.LaidOnce
namespace Go.Proofs.YtdepmjgibenejaaDoor
open Go
set_option maxRecDepth 100000
theorem seatTie1 : Tryd.prog.laidByTextLater [("errors.errorType", Rows.laid_errors_errorType), ("cartulary/api.ErrNil", Rows.laid_cartulary_api_ErrNil), ("cartulary/api.ErrArg", Rows.laid_cartulary_api_ErrArg), ("cartulary/api.ErrInput", Rows.laid_cartulary_api_ErrInput), ("cartulary/api.ErrLimit", Rows.laid_cartulary_api_ErrLimit), ("cartulary/api.ErrRange", Rows.laid_cartulary_api_ErrRange), ("cartulary/api.ErrGone", Rows.laid_cartulary_api_ErrGone), ("cartulary/api.ErrUnavailable", Rows.laid_cartulary_api_ErrUnavailable), ("cartulary/api.ErrDead", Rows.laid_cartulary_api_ErrDead), ("cartulary/api.ErrCorrupt", Rows.laid_cartulary_api_ErrCorrupt), ("cartulary/api.ErrProof", Rows.laid_cartulary_api_ErrProof), ("cartulary/api.ErrSpent", Rows.laid_cartulary_api_ErrSpent), ("cartulary/api.ErrSigned", Rows.laid_cartulary_api_ErrSigned), ("cartulary/api.ErrFork", Rows.laid_cartulary_api_ErrFork), ("cartulary/api.ErrOld", Rows.laid_cartulary_api_ErrOld), ("cartulary/api.ErrStopped", Rows.laid_cartulary_api_ErrStopped), ("cartulary/api.ErrScript", Rows.laid_cartulary_api_ErrScript)] [.handle, .sentinel, .sentinel, .sentinel, .sentinel, .sentinel, .sentinel, .sentinel, .sentinel, .sentinel, .sentinel, .sentinel, .sentinel, .sentinel, .sentinel, .sentinel, .sentinel] true :=
  Program.laidByTextLater_by_one 320 8 2 (by kernel_rfl) (by kernel_rfl) (by kernel_rfl) (by kernel_rfl) (by kernel_rfl) (by kernel_rfl) (fun _ _ => by kernel_rfl)
theorem noOwnUnsafe : Tryd.pinned.checked.prog.headLifts.contains "ownunsafe" = false := by kernel_rfl
theorem tie : Tryd.prog.laidByTextLater [("cartulary/api.ErrArg", Rows.laid_cartulary_api_ErrArg)] [.sentinel] true :=
  Program.laidByTextLater.sub seatTie1 ["cartulary/api.ErrArg"] (by kernel_rfl) (by kernel_rfl)
theorem cacheKinds_row_tie : Rows.cacheKindsRow.laidByTextAt .later Tryd.pinned [.sentinel] true :=
  OpenClaim.laidByTextAt_later rfl rfl tie noOwnUnsafe
theorem cacheNone_row_tie : Rows.cacheNoneRow.laidByTextAt .later Tryd.pinned [.sentinel] true :=
  OpenClaim.laidByTextAt_later rfl rfl tie noOwnUnsafe
theorem tie2 : Tryd.prog.laidByTextLater [("errors.errorType", Rows.laid_errors_errorType), ("cartulary/api.ErrNil", Rows.laid_cartulary_api_ErrNil), ("cartulary/api.ErrArg", Rows.laid_cartulary_api_ErrArg), ("cartulary/api.ErrInput", Rows.laid_cartulary_api_ErrInput), ("cartulary/api.ErrLimit", Rows.laid_cartulary_api_ErrLimit), ("cartulary/api.ErrRange", Rows.laid_cartulary_api_ErrRange), ("cartulary/api.ErrGone", Rows.laid_cartulary_api_ErrGone), ("cartulary/api.ErrUnavailable", Rows.laid_cartulary_api_ErrUnavailable), ("cartulary/api.ErrDead", Rows.laid_cartulary_api_ErrDead), ("cartulary/api.ErrCorrupt", Rows.laid_cartulary_api_ErrCorrupt), ("cartulary/api.ErrProof", Rows.laid_cartulary_api_ErrProof), ("cartulary/api.ErrSpent", Rows.laid_cartulary_api_ErrSpent), ("cartulary/api.ErrSigned", Rows.laid_cartulary_api_ErrSigned), ("cartulary/api.ErrFork", Rows.laid_cartulary_api_ErrFork), ("cartulary/api.ErrOld", Rows.laid_cartulary_api_ErrOld), ("cartulary/api.ErrStopped", Rows.laid_cartulary_api_ErrStopped), ("cartulary/api.ErrScript", Rows.laid_cartulary_api_ErrScript)] [.handle, .sentinel, .sentinel, .sentinel, .sentinel, .sentinel, .sentinel, .sentinel, .sentinel, .sentinel, .sentinel, .sentinel, .sentinel, .sentinel, .sentinel, .sentinel, .sentinel] true :=
  Program.laidByTextLater.sub seatTie1 ["errors.errorType", "cartulary/api.ErrNil", "cartulary/api.ErrArg", "cartulary/api.ErrInput", "cartulary/api.ErrLimit", "cartulary/api.ErrRange", "cartulary/api.ErrGone", "cartulary/api.ErrUnavailable", "cartulary/api.ErrDead", "cartulary/api.ErrCorrupt", "cartulary/api.ErrProof", "cartulary/api.ErrSpent", "cartulary/api.ErrSigned", "cartulary/api.ErrFork", "cartulary/api.ErrOld", "cartulary/api.ErrStopped", "cartulary/api.ErrScript"] (by kernel_rfl) (by kernel_rfl)
theorem cacheKeeps_row_tie : Rows.cacheKeepsRow.laidByTextAt .later Tryd.pinned [.handle, .sentinel, .sentinel, .sentinel, .sentinel, .sentinel, .sentinel, .sentinel, .sentinel, .sentinel, .sentinel, .sentinel, .sentinel, .sentinel, .sentinel, .sentinel, .sentinel] true :=
  OpenClaim.laidByTextAt_later rfl rfl tie2 noOwnUnsafe
theorem cacheKindsUpto_row_tie : Rows.cacheKindsUptoRow.laidByTextAt .later Tryd.pinned [.sentinel] true :=
  OpenClaim.laidByTextAt_later rfl rfl tie noOwnUnsafe
theorem cacheNoneUpto_row_tie : Rows.cacheNoneUptoRow.laidByTextAt .later Tryd.pinned [.sentinel] true :=
  OpenClaim.laidByTextAt_later rfl rfl tie noOwnUnsafe
theorem cacheKeepsUpto_row_tie : Rows.cacheKeepsUptoRow.laidByTextAt .later Tryd.pinned [.handle, .sentinel, .sentinel, .sentinel, .sentinel, .sentinel, .sentinel, .sentinel, .sentinel, .sentinel, .sentinel, .sentinel, .sentinel, .sentinel, .sentinel, .sentinel, .sentinel] true :=
  OpenClaim.laidByTextAt_later rfl rfl tie2 noOwnUnsafe
end Go.Proofs.YtdepmjgibenejaaDoor
