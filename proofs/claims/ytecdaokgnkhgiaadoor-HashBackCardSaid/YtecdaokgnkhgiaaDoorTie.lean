/-
  DERIVED. GIVEN WITH THE SEED: THE PROGRAM's TIES (one call each: nine closed facts by the kernel) AND EACH ROW's TIE, after the 31st guide's Derived/Test/Toyas{Tie, Card}.lean. No idea stands in it: it is a product of the set-up. Laid BY PROGRAM, IN A SANDBOX (cutbox-door.mjs). By AI agents, Wed Nov 11 2026. No macro, syntax, notation, axiom, sorry.
-/
import Derived.Test.YtecdaokgnkhgiaaDoorRows
import Derived.LaidByTextLater
import Derived.SevenTiedAt
import Derived.LaidSub
import Derived.LaidOnce
namespace Go.Proofs.YtecdaokgnkhgiaaDoor
open Go
set_option maxRecDepth 100000
theorem seatTie1 : Tryd.prog.laidByTextLater [("errors.errorType", Rows.laid_errors_errorType), ("cartulary/api.ErrNil", Rows.laid_cartulary_api_ErrNil), ("cartulary/api.ErrArg", Rows.laid_cartulary_api_ErrArg), ("cartulary/api.ErrInput", Rows.laid_cartulary_api_ErrInput), ("cartulary/api.ErrLimit", Rows.laid_cartulary_api_ErrLimit), ("cartulary/api.ErrRange", Rows.laid_cartulary_api_ErrRange), ("cartulary/api.ErrGone", Rows.laid_cartulary_api_ErrGone), ("cartulary/api.ErrUnavailable", Rows.laid_cartulary_api_ErrUnavailable), ("cartulary/api.ErrDead", Rows.laid_cartulary_api_ErrDead), ("cartulary/api.ErrCorrupt", Rows.laid_cartulary_api_ErrCorrupt), ("cartulary/api.ErrProof", Rows.laid_cartulary_api_ErrProof), ("cartulary/api.ErrSpent", Rows.laid_cartulary_api_ErrSpent), ("cartulary/api.ErrSigned", Rows.laid_cartulary_api_ErrSigned), ("cartulary/api.ErrFork", Rows.laid_cartulary_api_ErrFork), ("cartulary/api.ErrOld", Rows.laid_cartulary_api_ErrOld), ("cartulary/api.ErrStopped", Rows.laid_cartulary_api_ErrStopped), ("cartulary/api.ErrScript", Rows.laid_cartulary_api_ErrScript), ("cartulary/sha.table", Rows.laid_cartulary_sha_table)] [.handle, .sentinel, .sentinel, .sentinel, .sentinel, .sentinel, .sentinel, .sentinel, .sentinel, .sentinel, .sentinel, .sentinel, .sentinel, .sentinel, .sentinel, .sentinel, .sentinel, .data] true :=
  Program.laidByTextLater_by_one 325 8 65 (by kernel_rfl) (by kernel_rfl) (by kernel_rfl) (by kernel_rfl) (by kernel_rfl) (by kernel_rfl) (fun _ _ => by kernel_rfl)
theorem noOwnUnsafe : Tryd.pinned.checked.prog.headLifts.contains "ownunsafe" = false := by kernel_rfl
theorem tie : Tryd.prog.laidByTextLater [("errors.errorType", Rows.laid_errors_errorType), ("cartulary/api.ErrNil", Rows.laid_cartulary_api_ErrNil), ("cartulary/api.ErrArg", Rows.laid_cartulary_api_ErrArg), ("cartulary/api.ErrInput", Rows.laid_cartulary_api_ErrInput), ("cartulary/api.ErrLimit", Rows.laid_cartulary_api_ErrLimit), ("cartulary/api.ErrRange", Rows.laid_cartulary_api_ErrRange), ("cartulary/api.ErrGone", Rows.laid_cartulary_api_ErrGone), ("cartulary/api.ErrUnavailable", Rows.laid_cartulary_api_ErrUnavailable), ("cartulary/api.ErrDead", Rows.laid_cartulary_api_ErrDead), ("cartulary/api.ErrCorrupt", Rows.laid_cartulary_api_ErrCorrupt), ("cartulary/api.ErrProof", Rows.laid_cartulary_api_ErrProof), ("cartulary/api.ErrSpent", Rows.laid_cartulary_api_ErrSpent), ("cartulary/api.ErrSigned", Rows.laid_cartulary_api_ErrSigned), ("cartulary/api.ErrFork", Rows.laid_cartulary_api_ErrFork), ("cartulary/api.ErrOld", Rows.laid_cartulary_api_ErrOld), ("cartulary/api.ErrStopped", Rows.laid_cartulary_api_ErrStopped), ("cartulary/api.ErrScript", Rows.laid_cartulary_api_ErrScript), ("cartulary/sha.table", Rows.laid_cartulary_sha_table)] [.handle, .sentinel, .sentinel, .sentinel, .sentinel, .sentinel, .sentinel, .sentinel, .sentinel, .sentinel, .sentinel, .sentinel, .sentinel, .sentinel, .sentinel, .sentinel, .sentinel, .data] true :=
  Program.laidByTextLater.sub seatTie1 ["errors.errorType", "cartulary/api.ErrNil", "cartulary/api.ErrArg", "cartulary/api.ErrInput", "cartulary/api.ErrLimit", "cartulary/api.ErrRange", "cartulary/api.ErrGone", "cartulary/api.ErrUnavailable", "cartulary/api.ErrDead", "cartulary/api.ErrCorrupt", "cartulary/api.ErrProof", "cartulary/api.ErrSpent", "cartulary/api.ErrSigned", "cartulary/api.ErrFork", "cartulary/api.ErrOld", "cartulary/api.ErrStopped", "cartulary/api.ErrScript", "cartulary/sha.table"] (by kernel_rfl) (by kernel_rfl)
theorem hashLeaves_row_tie : Rows.hashLeavesRow.laidByTextAt .later Tryd.pinned [.handle, .sentinel, .sentinel, .sentinel, .sentinel, .sentinel, .sentinel, .sentinel, .sentinel, .sentinel, .sentinel, .sentinel, .sentinel, .sentinel, .sentinel, .sentinel, .sentinel, .data] true :=
  OpenClaim.laidByTextAt_later rfl rfl tie noOwnUnsafe
theorem hashChains_row_tie : Rows.hashChainsRow.laidByTextAt .later Tryd.pinned [.handle, .sentinel, .sentinel, .sentinel, .sentinel, .sentinel, .sentinel, .sentinel, .sentinel, .sentinel, .sentinel, .sentinel, .sentinel, .sentinel, .sentinel, .sentinel, .sentinel, .data] true :=
  OpenClaim.laidByTextAt_later rfl rfl tie noOwnUnsafe
theorem hashAdds_row_tie : Rows.hashAddsRow.laidByTextAt .later Tryd.pinned [.handle, .sentinel, .sentinel, .sentinel, .sentinel, .sentinel, .sentinel, .sentinel, .sentinel, .sentinel, .sentinel, .sentinel, .sentinel, .sentinel, .sentinel, .sentinel, .sentinel, .data] true :=
  OpenClaim.laidByTextAt_later rfl rfl tie noOwnUnsafe
theorem hashNodes_row_tie : Rows.hashNodesRow.laidByTextAt .later Tryd.pinned [.handle, .sentinel, .sentinel, .sentinel, .sentinel, .sentinel, .sentinel, .sentinel, .sentinel, .sentinel, .sentinel, .sentinel, .sentinel, .sentinel, .sentinel, .sentinel, .sentinel, .data] true :=
  OpenClaim.laidByTextAt_later rfl rfl tie noOwnUnsafe
theorem hashBySha_row_tie : Rows.hashByShaRow.laidByTextAt .later Tryd.pinned [.handle, .sentinel, .sentinel, .sentinel, .sentinel, .sentinel, .sentinel, .sentinel, .sentinel, .sentinel, .sentinel, .sentinel, .sentinel, .sentinel, .sentinel, .sentinel, .sentinel, .data] true :=
  OpenClaim.laidByTextAt_later rfl rfl tie noOwnUnsafe
theorem hashReads_row_tie : Rows.hashReadsRow.laidByTextAt .later Tryd.pinned [.handle, .sentinel, .sentinel, .sentinel, .sentinel, .sentinel, .sentinel, .sentinel, .sentinel, .sentinel, .sentinel, .sentinel, .sentinel, .sentinel, .sentinel, .sentinel, .sentinel, .data] true :=
  OpenClaim.laidByTextAt_later rfl rfl tie noOwnUnsafe
theorem hashShows_row_tie : Rows.hashShowsRow.laidByTextAt .later Tryd.pinned [.handle, .sentinel, .sentinel, .sentinel, .sentinel, .sentinel, .sentinel, .sentinel, .sentinel, .sentinel, .sentinel, .sentinel, .sentinel, .sentinel, .sentinel, .sentinel, .sentinel, .data] true :=
  OpenClaim.laidByTextAt_later rfl rfl tie noOwnUnsafe
theorem hashNames_row_tie : Rows.hashNamesRow.laidByTextAt .later Tryd.pinned [.handle, .sentinel, .sentinel, .sentinel, .sentinel, .sentinel, .sentinel, .sentinel, .sentinel, .sentinel, .sentinel, .sentinel, .sentinel, .sentinel, .sentinel, .sentinel, .sentinel, .data] true :=
  OpenClaim.laidByTextAt_later rfl rfl tie noOwnUnsafe
theorem hashBack_row_tie : Rows.hashBackRow.laidByTextAt .later Tryd.pinned [.handle, .sentinel, .sentinel, .sentinel, .sentinel, .sentinel, .sentinel, .sentinel, .sentinel, .sentinel, .sentinel, .sentinel, .sentinel, .sentinel, .sentinel, .sentinel, .sentinel, .data] true :=
  OpenClaim.laidByTextAt_later rfl rfl tie noOwnUnsafe
theorem hashLeavesUpto_row_tie : Rows.hashLeavesUptoRow.laidByTextAt .later Tryd.pinned [.handle, .sentinel, .sentinel, .sentinel, .sentinel, .sentinel, .sentinel, .sentinel, .sentinel, .sentinel, .sentinel, .sentinel, .sentinel, .sentinel, .sentinel, .sentinel, .sentinel, .data] true :=
  OpenClaim.laidByTextAt_later rfl rfl tie noOwnUnsafe
theorem hashChainsUpto_row_tie : Rows.hashChainsUptoRow.laidByTextAt .later Tryd.pinned [.handle, .sentinel, .sentinel, .sentinel, .sentinel, .sentinel, .sentinel, .sentinel, .sentinel, .sentinel, .sentinel, .sentinel, .sentinel, .sentinel, .sentinel, .sentinel, .sentinel, .data] true :=
  OpenClaim.laidByTextAt_later rfl rfl tie noOwnUnsafe
theorem hashAddsUpto_row_tie : Rows.hashAddsUptoRow.laidByTextAt .later Tryd.pinned [.handle, .sentinel, .sentinel, .sentinel, .sentinel, .sentinel, .sentinel, .sentinel, .sentinel, .sentinel, .sentinel, .sentinel, .sentinel, .sentinel, .sentinel, .sentinel, .sentinel, .data] true :=
  OpenClaim.laidByTextAt_later rfl rfl tie noOwnUnsafe
theorem hashNodesUpto_row_tie : Rows.hashNodesUptoRow.laidByTextAt .later Tryd.pinned [.handle, .sentinel, .sentinel, .sentinel, .sentinel, .sentinel, .sentinel, .sentinel, .sentinel, .sentinel, .sentinel, .sentinel, .sentinel, .sentinel, .sentinel, .sentinel, .sentinel, .data] true :=
  OpenClaim.laidByTextAt_later rfl rfl tie noOwnUnsafe
theorem hashByShaUpto_row_tie : Rows.hashByShaUptoRow.laidByTextAt .later Tryd.pinned [.handle, .sentinel, .sentinel, .sentinel, .sentinel, .sentinel, .sentinel, .sentinel, .sentinel, .sentinel, .sentinel, .sentinel, .sentinel, .sentinel, .sentinel, .sentinel, .sentinel, .data] true :=
  OpenClaim.laidByTextAt_later rfl rfl tie noOwnUnsafe
theorem hashReadsUpto_row_tie : Rows.hashReadsUptoRow.laidByTextAt .later Tryd.pinned [.handle, .sentinel, .sentinel, .sentinel, .sentinel, .sentinel, .sentinel, .sentinel, .sentinel, .sentinel, .sentinel, .sentinel, .sentinel, .sentinel, .sentinel, .sentinel, .sentinel, .data] true :=
  OpenClaim.laidByTextAt_later rfl rfl tie noOwnUnsafe
theorem hashShowsUpto_row_tie : Rows.hashShowsUptoRow.laidByTextAt .later Tryd.pinned [.handle, .sentinel, .sentinel, .sentinel, .sentinel, .sentinel, .sentinel, .sentinel, .sentinel, .sentinel, .sentinel, .sentinel, .sentinel, .sentinel, .sentinel, .sentinel, .sentinel, .data] true :=
  OpenClaim.laidByTextAt_later rfl rfl tie noOwnUnsafe
theorem hashNamesUpto_row_tie : Rows.hashNamesUptoRow.laidByTextAt .later Tryd.pinned [.handle, .sentinel, .sentinel, .sentinel, .sentinel, .sentinel, .sentinel, .sentinel, .sentinel, .sentinel, .sentinel, .sentinel, .sentinel, .sentinel, .sentinel, .sentinel, .sentinel, .data] true :=
  OpenClaim.laidByTextAt_later rfl rfl tie noOwnUnsafe
theorem hashBackUpto_row_tie : Rows.hashBackUptoRow.laidByTextAt .later Tryd.pinned [.handle, .sentinel, .sentinel, .sentinel, .sentinel, .sentinel, .sentinel, .sentinel, .sentinel, .sentinel, .sentinel, .sentinel, .sentinel, .sentinel, .sentinel, .sentinel, .sentinel, .data] true :=
  OpenClaim.laidByTextAt_later rfl rfl tie noOwnUnsafe
end Go.Proofs.YtecdaokgnkhgiaaDoor
