/-
  NARROWER THAN 'FOR EVERY INPUT', by the rows' own cells (each row's printed sentence says how): CacheKinds: laid · CacheNone: laid · CacheKeeps: laid.
  DERIVED. THE GIVEN ROWS OF THIS SEAT. 3 by the template 'for every input the law returns true; each argument reads behind the call as it read before'; 0 by the template 'total and deterministic' (their statements: YtdepmjgibenejaaDoorTotals.lean).
  GIVEN WITH THE SEED: the statements are not yours to turn. If you find one false, say at which input.
  Laid BY PROGRAM, IN A SANDBOX (cutbox-rows.mjs): the forced cells as the released guide's own fill.sh prints them over the translation 335da41d1e146e05… (all of the seat's roots in one cut). By AI agents, Wed Nov 11 2026. No macro, syntax, notation, axiom, sorry.
-/
import Derived.Test.YtdepmjgibenejaaDoorChecked
import GoSem.Claim
import GoSem.ClaimJoined
import GoSem.ClaimMapViews
import Derived.JoinedTies
import Derived.KernelRfl
namespace Go.Proofs.YtdepmjgibenejaaDoor
/- THE CELL 'sum', in the pinned program and in every row, IS THE sha256 OF THE DUMP (.gsa) THAT YtdepmjgibenejaaDoorProg.lean LOADS. Nothing in Lean hashes anything: it is a label: what it is worth is what the hold of that sum in a sandbox is worth. -/
noncomputable def Tryd.pinned : Pinned := { name := "ytdepmjgibenejaadoor", sum := "335da41d1e146e058daecc837cd0f7607f69266a3c1a8a44bac886e0466baa39", checked := Tryd.checked }
namespace Rows
def none {H : Type} : Left H := { results := [], args := [] }

/- WHAT THE LISTED PACKAGE-LEVEL VARIABLES READ AS WHEN THE CALL BEGINS. Each datum BY PROGRAM (the guide's laid-datum.mjs) off the statement by which the dump's own 'gosem.cut.vars' lays the variable. In a bare row this is a premise. The card (YtdepmjgibenejaaDoorCards.lean) ties it to the program's text. -/
def laid_cartulary_api_ErrArg {H : Type} : DataW H := .iface "*errors.errorString" (.ptr (.agg [.lit (.string [97, 110, 32, 97, 114, 103, 117, 109, 101, 110, 116, 32, 116, 104, 97, 116, 32, 109, 97, 121, 32, 110, 111, 116, 32, 98, 101])]))
def laid_errors_errorType {H : Type} : DataW H := .iface "internal/reflectlite.rtype" (.agg [.ptr (.lit (.string [101, 114, 114, 111, 114]))])
def laid_cartulary_api_ErrNil {H : Type} : DataW H := .iface "*errors.errorString" (.ptr (.agg [.lit (.string [97, 110, 32, 111, 98, 106, 101, 99, 116, 32, 116, 104, 97, 116, 32, 105, 115, 32, 110, 111, 116, 32, 116, 104, 101, 114, 101])]))
def laid_cartulary_api_ErrInput {H : Type} : DataW H := .iface "*errors.errorString" (.ptr (.agg [.lit (.string [97, 110, 32, 105, 110, 112, 117, 116, 32, 116, 104, 97, 116, 32, 105, 115, 32, 110, 111, 110, 101, 32, 111, 102, 32, 116, 104, 111, 115, 101, 32, 116, 104, 97, 116, 32, 109, 97, 121, 32, 98, 101])]))
def laid_cartulary_api_ErrLimit {H : Type} : DataW H := .iface "*errors.errorString" (.ptr (.agg [.lit (.string [97, 98, 111, 118, 101, 32, 97, 32, 108, 105, 109, 105, 116])]))
def laid_cartulary_api_ErrRange {H : Type} : DataW H := .iface "*errors.errorString" (.ptr (.agg [.lit (.string [110, 111, 32, 115, 117, 99, 104, 32, 108, 101, 97, 102, 44, 32, 115, 105, 122, 101, 32, 111, 114, 32, 115, 116, 114, 101, 116, 99, 104])]))
def laid_cartulary_api_ErrGone {H : Type} : DataW H := .iface "*errors.errorString" (.ptr (.agg [.lit (.string [110, 111, 116, 104, 105, 110, 103, 32, 111, 102, 32, 116, 104, 97, 116, 32, 110, 97, 109, 101])]))
def laid_cartulary_api_ErrUnavailable {H : Type} : DataW H := .iface "*errors.errorString" (.ptr (.agg [.lit (.string [105, 116, 32, 99, 111, 117, 108, 100, 32, 110, 111, 116, 32, 98, 101, 32, 114, 101, 97, 100])]))
def laid_cartulary_api_ErrDead {H : Type} : DataW H := .iface "*errors.errorString" (.ptr (.agg [.lit (.string [116, 104, 101, 32, 115, 116, 111, 114, 101, 32, 104, 97, 115, 32, 99, 114, 97, 115, 104, 101, 100])]))
def laid_cartulary_api_ErrCorrupt {H : Type} : DataW H := .iface "*errors.errorString" (.ptr (.agg [.lit (.string [119, 104, 97, 116, 32, 108, 105, 101, 115, 32, 105, 110, 32, 116, 104, 101, 32, 115, 116, 111, 114, 101, 32, 105, 115, 32, 110, 111, 32, 108, 111, 103])]))
def laid_cartulary_api_ErrProof {H : Type} : DataW H := .iface "*errors.errorString" (.ptr (.agg [.lit (.string [105, 116, 32, 100, 111, 101, 115, 32, 110, 111, 116, 32, 112, 114, 111, 118, 101, 32, 116, 104, 97, 116])]))
def laid_cartulary_api_ErrSpent {H : Type} : DataW H := .iface "*errors.errorString" (.ptr (.agg [.lit (.string [110, 111, 32, 107, 101, 121, 32, 105, 115, 32, 108, 101, 102, 116])]))
def laid_cartulary_api_ErrSigned {H : Type} : DataW H := .iface "*errors.errorString" (.ptr (.agg [.lit (.string [110, 111, 116, 32, 115, 105, 103, 110, 101, 100, 32, 98, 121, 32, 119, 104, 111, 109, 32, 105, 116, 32, 115, 104, 111, 117, 108, 100, 32, 98, 101])]))
def laid_cartulary_api_ErrFork {H : Type} : DataW H := .iface "*errors.errorString" (.ptr (.agg [.lit (.string [116, 119, 111, 32, 108, 111, 103, 115, 32, 111, 102, 32, 111, 110, 101, 32, 110, 97, 109, 101])]))
def laid_cartulary_api_ErrOld {H : Type} : DataW H := .iface "*errors.errorString" (.ptr (.agg [.lit (.string [111, 108, 100, 101, 114, 32, 116, 104, 97, 110, 32, 119, 104, 97, 116, 32, 105, 115, 32, 107, 110, 111, 119, 110])]))
def laid_cartulary_api_ErrStopped {H : Type} : DataW H := .iface "*errors.errorString" (.ptr (.agg [.lit (.string [115, 116, 111, 112, 112, 101, 100])]))
def laid_cartulary_api_ErrScript {H : Type} : DataW H := .iface "*errors.errorString" (.ptr (.agg [.lit (.string [110, 111, 32, 115, 99, 114, 105, 112, 116])]))

/-- 'cartularylaw13.CacheKinds': WHATEVER THE INPUT: true; the input reads as it did. -/
def cacheKindsSpec : ChangeSpec := { name := "cacheKinds", fn := fun _ => fun
  | [d] => { results := [.lit (.bool true)], args := [d] }
  | _ => none }
def cacheKindsRow : OpenClaim := { program := "ytdepmjgibenejaadoor", sum := "335da41d1e146e058daecc837cd0f7607f69266a3c1a8a44bac886e0466baa39", func := "cartulary/cartularylaw13.CacheKinds", spec := "cacheKinds", named := ["cartulary/api.ErrArg"], plainKeys := false, apart := false, laid := [("cartulary/api.ErrArg", laid_cartulary_api_ErrArg)] }
def CacheKindsSaid : Prop := cacheKindsRow.holds Tryd.pinned (OpenSpec.ofChange cacheKindsSpec)

/-- ITS FALSE NEIGHBOUR: 'it returns false'. Refute it at one input. -/
def cacheKindsWrong : ChangeSpec := { name := "cacheKinds", fn := fun _ => fun
  | [d] => { results := [.lit (.bool false)], args := [d] }
  | _ => none }
def CacheKindsWrongFalsely : Prop := cacheKindsRow.holds Tryd.pinned (OpenSpec.ofChange cacheKindsWrong)

/-- 'cartularylaw13.CacheNone': WHATEVER THE INPUT: true; the input reads as it did. -/
def cacheNoneSpec : ChangeSpec := { name := "cacheNone", fn := fun _ => fun
  | [d1, d2] => { results := [.lit (.bool true)], args := [d1, d2] }
  | _ => none }
def cacheNoneRow : OpenClaim := { program := "ytdepmjgibenejaadoor", sum := "335da41d1e146e058daecc837cd0f7607f69266a3c1a8a44bac886e0466baa39", func := "cartulary/cartularylaw13.CacheNone", spec := "cacheNone", named := ["cartulary/api.ErrArg"], plainKeys := false, apart := false, laid := [("cartulary/api.ErrArg", laid_cartulary_api_ErrArg)] }
def CacheNoneSaid : Prop := cacheNoneRow.holds Tryd.pinned (OpenSpec.ofChange cacheNoneSpec)

/-- ITS FALSE NEIGHBOUR: 'it returns false'. Refute it at one input. -/
def cacheNoneWrong : ChangeSpec := { name := "cacheNone", fn := fun _ => fun
  | [d1, d2] => { results := [.lit (.bool false)], args := [d1, d2] }
  | _ => none }
def CacheNoneWrongFalsely : Prop := cacheNoneRow.holds Tryd.pinned (OpenSpec.ofChange cacheNoneWrong)

/-- 'cartularylaw13.CacheKeeps': WHATEVER THE INPUT: true; the input reads as it did. -/
def cacheKeepsSpec : ChangeSpec := { name := "cacheKeeps", fn := fun _ => fun
  | [d1, d2] => { results := [.lit (.bool true)], args := [d1, d2] }
  | _ => none }
def cacheKeepsRow : OpenClaim := { program := "ytdepmjgibenejaadoor", sum := "335da41d1e146e058daecc837cd0f7607f69266a3c1a8a44bac886e0466baa39", func := "cartulary/cartularylaw13.CacheKeeps", spec := "cacheKeeps", inPlace := ["internal/reflectlite.ValueOf", "(internal/reflectlite.Value).Type", "(internal/reflectlite.Value).IsNil", "internal/reflectlite.TypeOf", "(internal/reflectlite.Value).Elem", "(internal/reflectlite.Value).Set"], unfollowed := true, recurses := true, named := ["cartulary/api.ErrArg", "errors.errorType", "cartulary/api.ErrNil", "cartulary/api.ErrInput", "cartulary/api.ErrLimit", "cartulary/api.ErrRange", "cartulary/api.ErrGone", "cartulary/api.ErrUnavailable", "cartulary/api.ErrDead", "cartulary/api.ErrCorrupt", "cartulary/api.ErrProof", "cartulary/api.ErrSpent", "cartulary/api.ErrSigned", "cartulary/api.ErrFork", "cartulary/api.ErrOld", "cartulary/api.ErrStopped", "cartulary/api.ErrScript"], plainKeys := false, apart := false, laid := [("errors.errorType", laid_errors_errorType), ("cartulary/api.ErrNil", laid_cartulary_api_ErrNil), ("cartulary/api.ErrArg", laid_cartulary_api_ErrArg), ("cartulary/api.ErrInput", laid_cartulary_api_ErrInput), ("cartulary/api.ErrLimit", laid_cartulary_api_ErrLimit), ("cartulary/api.ErrRange", laid_cartulary_api_ErrRange), ("cartulary/api.ErrGone", laid_cartulary_api_ErrGone), ("cartulary/api.ErrUnavailable", laid_cartulary_api_ErrUnavailable), ("cartulary/api.ErrDead", laid_cartulary_api_ErrDead), ("cartulary/api.ErrCorrupt", laid_cartulary_api_ErrCorrupt), ("cartulary/api.ErrProof", laid_cartulary_api_ErrProof), ("cartulary/api.ErrSpent", laid_cartulary_api_ErrSpent), ("cartulary/api.ErrSigned", laid_cartulary_api_ErrSigned), ("cartulary/api.ErrFork", laid_cartulary_api_ErrFork), ("cartulary/api.ErrOld", laid_cartulary_api_ErrOld), ("cartulary/api.ErrStopped", laid_cartulary_api_ErrStopped), ("cartulary/api.ErrScript", laid_cartulary_api_ErrScript)] }
def CacheKeepsSaid : Prop := cacheKeepsRow.holds Tryd.pinned (OpenSpec.ofChange cacheKeepsSpec)

/-- ITS FALSE NEIGHBOUR: 'it returns false'. Refute it at one input. -/
def cacheKeepsWrong : ChangeSpec := { name := "cacheKeeps", fn := fun _ => fun
  | [d1, d2] => { results := [.lit (.bool false)], args := [d1, d2] }
  | _ => none }
def CacheKeepsWrongFalsely : Prop := cacheKeepsRow.holds Tryd.pinned (OpenSpec.ofChange cacheKeepsWrong)

/- THE SECOND FORM. 'bulk': how many values and letters a reading holds, each counted each time it is reached (what is shared counts as often as it is met; a slice's spare places count too). A statement '..UptoSaid' is the law's where the arguments, and the package variables that the reading takes, are together of bulk at most 1048576: NARROWER than '..Said'. Prove '..Said' where nothing that the law and all that it calls make is longer than what came in: it says more and counts as full. Else prove '..UptoSaid'. A law counts once. -/
mutual
def uptoBulk {H : Type} : DataW H → Nat
  | .lit (.string bytes) => bytes.length + 1
  | .lit _ => 1
  | .nil => 1
  | .ptr d => uptoBulk d + 1
  | .slice elems spare => uptoBulkAll elems + uptoBulkAll spare + 1
  | .agg parts => uptoBulkAll parts + 1
  | .iface _ d => uptoBulk d + 1
  | .map entries => uptoBulkEntries entries + 1
  | .held _ => 1
def uptoBulkAll {H : Type} : List (DataW H) → Nat
  | [] => 0
  | d :: r => uptoBulk d + uptoBulkAll r
def uptoBulkEntries {H : Type} : List (Lit × DataW H) → Nat
  | [] => 0
  | x :: r => uptoBulkEntry x + uptoBulkEntries r
def uptoBulkEntry {H : Type} : Lit × DataW H → Nat
  | (.string bytes, d) => bytes.length + uptoBulk d + 1
  | (_, d) => uptoBulk d + 1
 end
def uptoSmall : (H : Type) → List (DataW H) → Bool := fun _ ds => decide (uptoBulkAll ds ≤ 1048576)
def OpenSpec.upto (s : _root_.Go.ChangeSpec) : _root_.Go.OpenSpec := { _root_.Go.OpenSpec.ofChange s with cond := some uptoSmall }

/-- 'cartularylaw13.CacheKinds', WHERE WHAT IT READS IS OF BULK AT MOST 1048576: true; the input reads as it did. -/
def cacheKindsUptoRow : OpenClaim := { program := "ytdepmjgibenejaadoor", sum := "335da41d1e146e058daecc837cd0f7607f69266a3c1a8a44bac886e0466baa39", func := "cartulary/cartularylaw13.CacheKinds", spec := "cacheKinds", named := ["cartulary/api.ErrArg"], plainKeys := false, apart := false, laid := [("cartulary/api.ErrArg", laid_cartulary_api_ErrArg)], narrowed := true }
def CacheKindsUptoSaid : Prop := cacheKindsUptoRow.holds Tryd.pinned (OpenSpec.upto cacheKindsSpec)

/-- 'cartularylaw13.CacheNone', WHERE WHAT IT READS IS OF BULK AT MOST 1048576: true; the input reads as it did. -/
def cacheNoneUptoRow : OpenClaim := { program := "ytdepmjgibenejaadoor", sum := "335da41d1e146e058daecc837cd0f7607f69266a3c1a8a44bac886e0466baa39", func := "cartulary/cartularylaw13.CacheNone", spec := "cacheNone", named := ["cartulary/api.ErrArg"], plainKeys := false, apart := false, laid := [("cartulary/api.ErrArg", laid_cartulary_api_ErrArg)], narrowed := true }
def CacheNoneUptoSaid : Prop := cacheNoneUptoRow.holds Tryd.pinned (OpenSpec.upto cacheNoneSpec)

/-- 'cartularylaw13.CacheKeeps', WHERE WHAT IT READS IS OF BULK AT MOST 1048576: true; the input reads as it did. -/
def cacheKeepsUptoRow : OpenClaim := { program := "ytdepmjgibenejaadoor", sum := "335da41d1e146e058daecc837cd0f7607f69266a3c1a8a44bac886e0466baa39", func := "cartulary/cartularylaw13.CacheKeeps", spec := "cacheKeeps", inPlace := ["internal/reflectlite.ValueOf", "(internal/reflectlite.Value).Type", "(internal/reflectlite.Value).IsNil", "internal/reflectlite.TypeOf", "(internal/reflectlite.Value).Elem", "(internal/reflectlite.Value).Set"], unfollowed := true, recurses := true, named := ["cartulary/api.ErrArg", "errors.errorType", "cartulary/api.ErrNil", "cartulary/api.ErrInput", "cartulary/api.ErrLimit", "cartulary/api.ErrRange", "cartulary/api.ErrGone", "cartulary/api.ErrUnavailable", "cartulary/api.ErrDead", "cartulary/api.ErrCorrupt", "cartulary/api.ErrProof", "cartulary/api.ErrSpent", "cartulary/api.ErrSigned", "cartulary/api.ErrFork", "cartulary/api.ErrOld", "cartulary/api.ErrStopped", "cartulary/api.ErrScript"], plainKeys := false, apart := false, laid := [("errors.errorType", laid_errors_errorType), ("cartulary/api.ErrNil", laid_cartulary_api_ErrNil), ("cartulary/api.ErrArg", laid_cartulary_api_ErrArg), ("cartulary/api.ErrInput", laid_cartulary_api_ErrInput), ("cartulary/api.ErrLimit", laid_cartulary_api_ErrLimit), ("cartulary/api.ErrRange", laid_cartulary_api_ErrRange), ("cartulary/api.ErrGone", laid_cartulary_api_ErrGone), ("cartulary/api.ErrUnavailable", laid_cartulary_api_ErrUnavailable), ("cartulary/api.ErrDead", laid_cartulary_api_ErrDead), ("cartulary/api.ErrCorrupt", laid_cartulary_api_ErrCorrupt), ("cartulary/api.ErrProof", laid_cartulary_api_ErrProof), ("cartulary/api.ErrSpent", laid_cartulary_api_ErrSpent), ("cartulary/api.ErrSigned", laid_cartulary_api_ErrSigned), ("cartulary/api.ErrFork", laid_cartulary_api_ErrFork), ("cartulary/api.ErrOld", laid_cartulary_api_ErrOld), ("cartulary/api.ErrStopped", laid_cartulary_api_ErrStopped), ("cartulary/api.ErrScript", laid_cartulary_api_ErrScript)], narrowed := true }
def CacheKeepsUptoSaid : Prop := cacheKeepsUptoRow.holds Tryd.pinned (OpenSpec.upto cacheKeepsSpec)

end Rows
end Go.Proofs.YtdepmjgibenejaaDoor
