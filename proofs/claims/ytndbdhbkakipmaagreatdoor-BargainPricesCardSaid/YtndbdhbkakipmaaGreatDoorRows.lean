/-
  NARROWER THAN 'FOR EVERY INPUT', by the rows' own cells (each row's printed sentence says how): BargainSures: laid · BargainPennies: laid · BargainPrices: laid · BargainChecks: laid · BargainMoves: laid · BargainOutcomes: laid.
  DERIVED. THE GIVEN ROWS OF THIS SEAT. 6 by the template 'for every input the law returns true; each argument reads behind the call as it read before'; 0 by the template 'total and deterministic' (their statements: YtndbdhbkakipmaaGreatDoorTotals.lean).
  GIVEN WITH THE SEED: the statements are not yours to turn. If you find one false, say at which input.
  Laid BY PROGRAM, IN A SANDBOX (cutbox-rows.mjs): the forced cells as the released guide's own fill.sh prints them over the translation facfbeb33964dc47… (all of the seat's roots in one cut). By AI agents, Wed Nov 11 2026. No macro, syntax, notation, axiom, sorry.
-/
import Derived.Test.YtndbdhbkakipmaaGreatDoorChecked
import GoSem.Claim
import GoSem.ClaimJoined
import GoSem.ClaimMapViews
import Derived.JoinedTies
import Derived.KernelRfl
namespace Go.Proofs.YtndbdhbkakipmaaGreatDoor
/- THE CELL 'sum', in the pinned program and in every row, IS THE sha256 OF THE DUMP (.gsa) THAT YtndbdhbkakipmaaGreatDoorProg.lean LOADS. Nothing in Lean hashes anything: it is a label: what it is worth is what the hold of that sum in a sandbox is worth. -/
noncomputable def Tryz.pinned : Pinned := { name := "ytndbdhbkakipmaagreatdoor", sum := "facfbeb33964dc478566eddadfd5ad8d1b304b4dd9f3e7d3ca36fca49ac41b2f", checked := Tryz.checked }
namespace Rows
def none {H : Type} : Left H := { results := [], args := [] }

/- WHAT THE LISTED PACKAGE-LEVEL VARIABLES READ AS WHEN THE CALL BEGINS. Each datum BY PROGRAM (the guide's laid-datum.mjs) off the statement by which the dump's own 'gosem.cut.vars' lays the variable. In a bare row this is a premise. The card (YtndbdhbkakipmaaGreatDoorCards.lean) ties it to the program's text. -/
def laid_errors_errorType {H : Type} : DataW H := .iface "internal/reflectlite.rtype" (.agg [.ptr (.lit (.string [101, 114, 114, 111, 114]))])

/-- 'palfreylaw03.BargainSures': WHATEVER THE INPUT: true; the input reads as it did. -/
def bargainSuresSpec : ChangeSpec := { name := "bargainSures", fn := fun _ => fun
  | [d1, d2, d3, d4, d5] => { results := [.lit (.bool true)], args := [d1, d2, d3, d4, d5] }
  | _ => none }
def bargainSuresRow : OpenClaim := { program := "ytndbdhbkakipmaagreatdoor", sum := "facfbeb33964dc478566eddadfd5ad8d1b304b4dd9f3e7d3ca36fca49ac41b2f", func := "palfrey/palfreylaw03.BargainSures", spec := "bargainSures", inPlace := ["internal/reflectlite.ValueOf", "(internal/reflectlite.Value).Type", "(internal/reflectlite.Value).IsNil", "internal/reflectlite.TypeOf", "(internal/reflectlite.Value).Elem", "(internal/reflectlite.Value).Set", "(*sync.WaitGroup).Add", "internal/race.ReleaseMerge", "internal/race.Disable", "internal/race.Enable", "internal/synctest.IsInBubble", "internal/synctest.Associate[sync.WaitGroup]", "sync.fatal", "sync/atomic.OrUint64", "sync/atomic.AddUint64", "internal/race.Read", "sync/atomic.LoadUint64", "sync/atomic.StoreUint64", "internal/synctest.Disassociate[sync.WaitGroup]", "sync.runtime_Semrelease", "(*sync.WaitGroup).Done", "(*sync.WaitGroup).Wait", "internal/race.Acquire", "internal/synctest.IsAssociated[sync.WaitGroup]", "sync/atomic.CompareAndSwapUint64", "internal/race.Write", "sync.runtime_SemacquireWaitGroup"], unfollowed := true, recurses := true, named := ["errors.errorType"], plainKeys := false, leaving := true, apart := false, laid := [("errors.errorType", laid_errors_errorType)] }
def BargainSuresSaid : Prop := bargainSuresRow.holds Tryz.pinned (OpenSpec.ofChange bargainSuresSpec)

/-- ITS FALSE NEIGHBOUR: 'it returns false'. Refute it at one input. -/
def bargainSuresWrong : ChangeSpec := { name := "bargainSures", fn := fun _ => fun
  | [d1, d2, d3, d4, d5] => { results := [.lit (.bool false)], args := [d1, d2, d3, d4, d5] }
  | _ => none }
def BargainSuresWrongFalsely : Prop := bargainSuresRow.holds Tryz.pinned (OpenSpec.ofChange bargainSuresWrong)

/-- 'palfreylaw03.BargainPennies': WHATEVER THE INPUT: true; the input reads as it did. -/
def bargainPenniesSpec : ChangeSpec := { name := "bargainPennies", fn := fun _ => fun
  | [d1, d2, d3] => { results := [.lit (.bool true)], args := [d1, d2, d3] }
  | _ => none }
def bargainPenniesRow : OpenClaim := { program := "ytndbdhbkakipmaagreatdoor", sum := "facfbeb33964dc478566eddadfd5ad8d1b304b4dd9f3e7d3ca36fca49ac41b2f", func := "palfrey/palfreylaw03.BargainPennies", spec := "bargainPennies", inPlace := ["internal/reflectlite.ValueOf", "(internal/reflectlite.Value).Type", "(internal/reflectlite.Value).IsNil", "internal/reflectlite.TypeOf", "(internal/reflectlite.Value).Elem", "(internal/reflectlite.Value).Set", "(*sync.WaitGroup).Add", "internal/race.ReleaseMerge", "internal/race.Disable", "internal/race.Enable", "internal/synctest.IsInBubble", "internal/synctest.Associate[sync.WaitGroup]", "sync.fatal", "sync/atomic.OrUint64", "sync/atomic.AddUint64", "internal/race.Read", "sync/atomic.LoadUint64", "sync/atomic.StoreUint64", "internal/synctest.Disassociate[sync.WaitGroup]", "sync.runtime_Semrelease", "(*sync.WaitGroup).Done", "(*sync.WaitGroup).Wait", "internal/race.Acquire", "internal/synctest.IsAssociated[sync.WaitGroup]", "sync/atomic.CompareAndSwapUint64", "internal/race.Write", "sync.runtime_SemacquireWaitGroup"], unfollowed := true, recurses := true, named := ["errors.errorType"], plainKeys := false, leaving := true, apart := false, laid := [("errors.errorType", laid_errors_errorType)] }
def BargainPenniesSaid : Prop := bargainPenniesRow.holds Tryz.pinned (OpenSpec.ofChange bargainPenniesSpec)

/-- ITS FALSE NEIGHBOUR: 'it returns false'. Refute it at one input. -/
def bargainPenniesWrong : ChangeSpec := { name := "bargainPennies", fn := fun _ => fun
  | [d1, d2, d3] => { results := [.lit (.bool false)], args := [d1, d2, d3] }
  | _ => none }
def BargainPenniesWrongFalsely : Prop := bargainPenniesRow.holds Tryz.pinned (OpenSpec.ofChange bargainPenniesWrong)

/-- 'palfreylaw03.BargainPrices': WHATEVER THE INPUT: true; the input reads as it did. -/
def bargainPricesSpec : ChangeSpec := { name := "bargainPrices", fn := fun _ => fun
  | [d1, d2, d3, d4, d5] => { results := [.lit (.bool true)], args := [d1, d2, d3, d4, d5] }
  | _ => none }
def bargainPricesRow : OpenClaim := { program := "ytndbdhbkakipmaagreatdoor", sum := "facfbeb33964dc478566eddadfd5ad8d1b304b4dd9f3e7d3ca36fca49ac41b2f", func := "palfrey/palfreylaw03.BargainPrices", spec := "bargainPrices", inPlace := ["internal/reflectlite.ValueOf", "(internal/reflectlite.Value).Type", "(internal/reflectlite.Value).IsNil", "internal/reflectlite.TypeOf", "(internal/reflectlite.Value).Elem", "(internal/reflectlite.Value).Set", "(*sync.WaitGroup).Add", "internal/race.ReleaseMerge", "internal/race.Disable", "internal/race.Enable", "internal/synctest.IsInBubble", "internal/synctest.Associate[sync.WaitGroup]", "sync.fatal", "sync/atomic.OrUint64", "sync/atomic.AddUint64", "internal/race.Read", "sync/atomic.LoadUint64", "sync/atomic.StoreUint64", "internal/synctest.Disassociate[sync.WaitGroup]", "sync.runtime_Semrelease", "(*sync.WaitGroup).Done", "(*sync.WaitGroup).Wait", "internal/race.Acquire", "internal/synctest.IsAssociated[sync.WaitGroup]", "sync/atomic.CompareAndSwapUint64", "internal/race.Write", "sync.runtime_SemacquireWaitGroup"], unfollowed := true, recurses := true, named := ["errors.errorType"], plainKeys := false, leaving := true, apart := false, laid := [("errors.errorType", laid_errors_errorType)] }
def BargainPricesSaid : Prop := bargainPricesRow.holds Tryz.pinned (OpenSpec.ofChange bargainPricesSpec)

/-- ITS FALSE NEIGHBOUR: 'it returns false'. Refute it at one input. -/
def bargainPricesWrong : ChangeSpec := { name := "bargainPrices", fn := fun _ => fun
  | [d1, d2, d3, d4, d5] => { results := [.lit (.bool false)], args := [d1, d2, d3, d4, d5] }
  | _ => none }
def BargainPricesWrongFalsely : Prop := bargainPricesRow.holds Tryz.pinned (OpenSpec.ofChange bargainPricesWrong)

/-- 'palfreylaw03.BargainChecks': WHATEVER THE INPUT: true; the input reads as it did. -/
def bargainChecksSpec : ChangeSpec := { name := "bargainChecks", fn := fun _ => fun
  | [d1, d2, d3] => { results := [.lit (.bool true)], args := [d1, d2, d3] }
  | _ => none }
def bargainChecksRow : OpenClaim := { program := "ytndbdhbkakipmaagreatdoor", sum := "facfbeb33964dc478566eddadfd5ad8d1b304b4dd9f3e7d3ca36fca49ac41b2f", func := "palfrey/palfreylaw03.BargainChecks", spec := "bargainChecks", inPlace := ["internal/reflectlite.ValueOf", "(internal/reflectlite.Value).Type", "(internal/reflectlite.Value).IsNil", "internal/reflectlite.TypeOf", "(internal/reflectlite.Value).Elem", "(internal/reflectlite.Value).Set", "(*sync.WaitGroup).Add", "internal/race.ReleaseMerge", "internal/race.Disable", "internal/race.Enable", "internal/synctest.IsInBubble", "internal/synctest.Associate[sync.WaitGroup]", "sync.fatal", "sync/atomic.OrUint64", "sync/atomic.AddUint64", "internal/race.Read", "sync/atomic.LoadUint64", "sync/atomic.StoreUint64", "internal/synctest.Disassociate[sync.WaitGroup]", "sync.runtime_Semrelease", "(*sync.WaitGroup).Done", "(*sync.WaitGroup).Wait", "internal/race.Acquire", "internal/synctest.IsAssociated[sync.WaitGroup]", "sync/atomic.CompareAndSwapUint64", "internal/race.Write", "sync.runtime_SemacquireWaitGroup"], unfollowed := true, recurses := true, named := ["errors.errorType"], plainKeys := false, leaving := true, apart := false, laid := [("errors.errorType", laid_errors_errorType)] }
def BargainChecksSaid : Prop := bargainChecksRow.holds Tryz.pinned (OpenSpec.ofChange bargainChecksSpec)

/-- ITS FALSE NEIGHBOUR: 'it returns false'. Refute it at one input. -/
def bargainChecksWrong : ChangeSpec := { name := "bargainChecks", fn := fun _ => fun
  | [d1, d2, d3] => { results := [.lit (.bool false)], args := [d1, d2, d3] }
  | _ => none }
def BargainChecksWrongFalsely : Prop := bargainChecksRow.holds Tryz.pinned (OpenSpec.ofChange bargainChecksWrong)

/-- 'palfreylaw03.BargainMoves': WHATEVER THE INPUT: true; the input reads as it did. -/
def bargainMovesSpec : ChangeSpec := { name := "bargainMoves", fn := fun _ => fun
  | [d1, d2, d3, d4] => { results := [.lit (.bool true)], args := [d1, d2, d3, d4] }
  | _ => none }
def bargainMovesRow : OpenClaim := { program := "ytndbdhbkakipmaagreatdoor", sum := "facfbeb33964dc478566eddadfd5ad8d1b304b4dd9f3e7d3ca36fca49ac41b2f", func := "palfrey/palfreylaw03.BargainMoves", spec := "bargainMoves", inPlace := ["internal/reflectlite.ValueOf", "(internal/reflectlite.Value).Type", "(internal/reflectlite.Value).IsNil", "internal/reflectlite.TypeOf", "(internal/reflectlite.Value).Elem", "(internal/reflectlite.Value).Set", "(*sync.WaitGroup).Add", "internal/race.ReleaseMerge", "internal/race.Disable", "internal/race.Enable", "internal/synctest.IsInBubble", "internal/synctest.Associate[sync.WaitGroup]", "sync.fatal", "sync/atomic.OrUint64", "sync/atomic.AddUint64", "internal/race.Read", "sync/atomic.LoadUint64", "sync/atomic.StoreUint64", "internal/synctest.Disassociate[sync.WaitGroup]", "sync.runtime_Semrelease", "(*sync.WaitGroup).Done", "(*sync.WaitGroup).Wait", "internal/race.Acquire", "internal/synctest.IsAssociated[sync.WaitGroup]", "sync/atomic.CompareAndSwapUint64", "internal/race.Write", "sync.runtime_SemacquireWaitGroup"], unfollowed := true, recurses := true, named := ["errors.errorType"], plainKeys := false, leaving := true, apart := false, laid := [("errors.errorType", laid_errors_errorType)] }
def BargainMovesSaid : Prop := bargainMovesRow.holds Tryz.pinned (OpenSpec.ofChange bargainMovesSpec)

/-- ITS FALSE NEIGHBOUR: 'it returns false'. Refute it at one input. -/
def bargainMovesWrong : ChangeSpec := { name := "bargainMoves", fn := fun _ => fun
  | [d1, d2, d3, d4] => { results := [.lit (.bool false)], args := [d1, d2, d3, d4] }
  | _ => none }
def BargainMovesWrongFalsely : Prop := bargainMovesRow.holds Tryz.pinned (OpenSpec.ofChange bargainMovesWrong)

/-- 'palfreylaw03.BargainOutcomes': WHATEVER THE INPUT: true; the input reads as it did. -/
def bargainOutcomesSpec : ChangeSpec := { name := "bargainOutcomes", fn := fun _ => fun
  | [d1, d2, d3] => { results := [.lit (.bool true)], args := [d1, d2, d3] }
  | _ => none }
def bargainOutcomesRow : OpenClaim := { program := "ytndbdhbkakipmaagreatdoor", sum := "facfbeb33964dc478566eddadfd5ad8d1b304b4dd9f3e7d3ca36fca49ac41b2f", func := "palfrey/palfreylaw03.BargainOutcomes", spec := "bargainOutcomes", inPlace := ["internal/reflectlite.ValueOf", "(internal/reflectlite.Value).Type", "(internal/reflectlite.Value).IsNil", "internal/reflectlite.TypeOf", "(internal/reflectlite.Value).Elem", "(internal/reflectlite.Value).Set", "(*sync.WaitGroup).Add", "internal/race.ReleaseMerge", "internal/race.Disable", "internal/race.Enable", "internal/synctest.IsInBubble", "internal/synctest.Associate[sync.WaitGroup]", "sync.fatal", "sync/atomic.OrUint64", "sync/atomic.AddUint64", "internal/race.Read", "sync/atomic.LoadUint64", "sync/atomic.StoreUint64", "internal/synctest.Disassociate[sync.WaitGroup]", "sync.runtime_Semrelease", "(*sync.WaitGroup).Done", "(*sync.WaitGroup).Wait", "internal/race.Acquire", "internal/synctest.IsAssociated[sync.WaitGroup]", "sync/atomic.CompareAndSwapUint64", "internal/race.Write", "sync.runtime_SemacquireWaitGroup"], unfollowed := true, recurses := true, named := ["errors.errorType"], plainKeys := false, leaving := true, apart := false, laid := [("errors.errorType", laid_errors_errorType)] }
def BargainOutcomesSaid : Prop := bargainOutcomesRow.holds Tryz.pinned (OpenSpec.ofChange bargainOutcomesSpec)

/-- ITS FALSE NEIGHBOUR: 'it returns false'. Refute it at one input. -/
def bargainOutcomesWrong : ChangeSpec := { name := "bargainOutcomes", fn := fun _ => fun
  | [d1, d2, d3] => { results := [.lit (.bool false)], args := [d1, d2, d3] }
  | _ => none }
def BargainOutcomesWrongFalsely : Prop := bargainOutcomesRow.holds Tryz.pinned (OpenSpec.ofChange bargainOutcomesWrong)

/- THE SECOND FORM. 'bulk': how many values and letters a reading holds, each counted each time it is reached (what is shared counts as often as it is met; a slice's spare places count too). A statement '..UptoSaid' is the law's where the arguments, and the package variables that the reading takes, are together of bulk at most 1048576: NARROWER than '..Said'. Prove '..Said' where nothing that the law and all that it calls make is longer than what came in: it says more and counts as full. Else prove '..UptoSaid'. A law counts once. -/
mutual
def uptoBulk {H : Type} : DataW H → Nat
  | .lit (.string bytes) => bytes.length + 1
  | .lit _ => 1
  | .nil => 1
  | .ptr d => uptoBulk d + 1
  | .slice elems spare => uptoBulkAll elems + uptoBulkAll spare + 1
  | .agg parts => uptoBulkAll parts + 1
  | .iface _ d => uptoBulk d + 1
  | .map entries => uptoBulkEntries entries + 1
  | .held _ => 1
def uptoBulkAll {H : Type} : List (DataW H) → Nat
  | [] => 0
  | d :: r => uptoBulk d + uptoBulkAll r
def uptoBulkEntries {H : Type} : List (Lit × DataW H) → Nat
  | [] => 0
  | x :: r => uptoBulkEntry x + uptoBulkEntries r
def uptoBulkEntry {H : Type} : Lit × DataW H → Nat
  | (.string bytes, d) => bytes.length + uptoBulk d + 1
  | (_, d) => uptoBulk d + 1
 end
def uptoSmall : (H : Type) → List (DataW H) → Bool := fun _ ds => decide (uptoBulkAll ds ≤ 1048576)
def OpenSpec.upto (s : _root_.Go.ChangeSpec) : _root_.Go.OpenSpec := { _root_.Go.OpenSpec.ofChange s with cond := some uptoSmall }

/-- 'palfreylaw03.BargainSures', WHERE WHAT IT READS IS OF BULK AT MOST 1048576: true; the input reads as it did. -/
def bargainSuresUptoRow : OpenClaim := { program := "ytndbdhbkakipmaagreatdoor", sum := "facfbeb33964dc478566eddadfd5ad8d1b304b4dd9f3e7d3ca36fca49ac41b2f", func := "palfrey/palfreylaw03.BargainSures", spec := "bargainSures", inPlace := ["internal/reflectlite.ValueOf", "(internal/reflectlite.Value).Type", "(internal/reflectlite.Value).IsNil", "internal/reflectlite.TypeOf", "(internal/reflectlite.Value).Elem", "(internal/reflectlite.Value).Set", "(*sync.WaitGroup).Add", "internal/race.ReleaseMerge", "internal/race.Disable", "internal/race.Enable", "internal/synctest.IsInBubble", "internal/synctest.Associate[sync.WaitGroup]", "sync.fatal", "sync/atomic.OrUint64", "sync/atomic.AddUint64", "internal/race.Read", "sync/atomic.LoadUint64", "sync/atomic.StoreUint64", "internal/synctest.Disassociate[sync.WaitGroup]", "sync.runtime_Semrelease", "(*sync.WaitGroup).Done", "(*sync.WaitGroup).Wait", "internal/race.Acquire", "internal/synctest.IsAssociated[sync.WaitGroup]", "sync/atomic.CompareAndSwapUint64", "internal/race.Write", "sync.runtime_SemacquireWaitGroup"], unfollowed := true, recurses := true, named := ["errors.errorType"], plainKeys := false, leaving := true, apart := false, laid := [("errors.errorType", laid_errors_errorType)], narrowed := true }
def BargainSuresUptoSaid : Prop := bargainSuresUptoRow.holds Tryz.pinned (OpenSpec.upto bargainSuresSpec)

/-- 'palfreylaw03.BargainPennies', WHERE WHAT IT READS IS OF BULK AT MOST 1048576: true; the input reads as it did. -/
def bargainPenniesUptoRow : OpenClaim := { program := "ytndbdhbkakipmaagreatdoor", sum := "facfbeb33964dc478566eddadfd5ad8d1b304b4dd9f3e7d3ca36fca49ac41b2f", func := "palfrey/palfreylaw03.BargainPennies", spec := "bargainPennies", inPlace := ["internal/reflectlite.ValueOf", "(internal/reflectlite.Value).Type", "(internal/reflectlite.Value).IsNil", "internal/reflectlite.TypeOf", "(internal/reflectlite.Value).Elem", "(internal/reflectlite.Value).Set", "(*sync.WaitGroup).Add", "internal/race.ReleaseMerge", "internal/race.Disable", "internal/race.Enable", "internal/synctest.IsInBubble", "internal/synctest.Associate[sync.WaitGroup]", "sync.fatal", "sync/atomic.OrUint64", "sync/atomic.AddUint64", "internal/race.Read", "sync/atomic.LoadUint64", "sync/atomic.StoreUint64", "internal/synctest.Disassociate[sync.WaitGroup]", "sync.runtime_Semrelease", "(*sync.WaitGroup).Done", "(*sync.WaitGroup).Wait", "internal/race.Acquire", "internal/synctest.IsAssociated[sync.WaitGroup]", "sync/atomic.CompareAndSwapUint64", "internal/race.Write", "sync.runtime_SemacquireWaitGroup"], unfollowed := true, recurses := true, named := ["errors.errorType"], plainKeys := false, leaving := true, apart := false, laid := [("errors.errorType", laid_errors_errorType)], narrowed := true }
def BargainPenniesUptoSaid : Prop := bargainPenniesUptoRow.holds Tryz.pinned (OpenSpec.upto bargainPenniesSpec)

/-- 'palfreylaw03.BargainPrices', WHERE WHAT IT READS IS OF BULK AT MOST 1048576: true; the input reads as it did. -/
def bargainPricesUptoRow : OpenClaim := { program := "ytndbdhbkakipmaagreatdoor", sum := "facfbeb33964dc478566eddadfd5ad8d1b304b4dd9f3e7d3ca36fca49ac41b2f", func := "palfrey/palfreylaw03.BargainPrices", spec := "bargainPrices", inPlace := ["internal/reflectlite.ValueOf", "(internal/reflectlite.Value).Type", "(internal/reflectlite.Value).IsNil", "internal/reflectlite.TypeOf", "(internal/reflectlite.Value).Elem", "(internal/reflectlite.Value).Set", "(*sync.WaitGroup).Add", "internal/race.ReleaseMerge", "internal/race.Disable", "internal/race.Enable", "internal/synctest.IsInBubble", "internal/synctest.Associate[sync.WaitGroup]", "sync.fatal", "sync/atomic.OrUint64", "sync/atomic.AddUint64", "internal/race.Read", "sync/atomic.LoadUint64", "sync/atomic.StoreUint64", "internal/synctest.Disassociate[sync.WaitGroup]", "sync.runtime_Semrelease", "(*sync.WaitGroup).Done", "(*sync.WaitGroup).Wait", "internal/race.Acquire", "internal/synctest.IsAssociated[sync.WaitGroup]", "sync/atomic.CompareAndSwapUint64", "internal/race.Write", "sync.runtime_SemacquireWaitGroup"], unfollowed := true, recurses := true, named := ["errors.errorType"], plainKeys := false, leaving := true, apart := false, laid := [("errors.errorType", laid_errors_errorType)], narrowed := true }
def BargainPricesUptoSaid : Prop := bargainPricesUptoRow.holds Tryz.pinned (OpenSpec.upto bargainPricesSpec)

/-- 'palfreylaw03.BargainChecks', WHERE WHAT IT READS IS OF BULK AT MOST 1048576: true; the input reads as it did. -/
def bargainChecksUptoRow : OpenClaim := { program := "ytndbdhbkakipmaagreatdoor", sum := "facfbeb33964dc478566eddadfd5ad8d1b304b4dd9f3e7d3ca36fca49ac41b2f", func := "palfrey/palfreylaw03.BargainChecks", spec := "bargainChecks", inPlace := ["internal/reflectlite.ValueOf", "(internal/reflectlite.Value).Type", "(internal/reflectlite.Value).IsNil", "internal/reflectlite.TypeOf", "(internal/reflectlite.Value).Elem", "(internal/reflectlite.Value).Set", "(*sync.WaitGroup).Add", "internal/race.ReleaseMerge", "internal/race.Disable", "internal/race.Enable", "internal/synctest.IsInBubble", "internal/synctest.Associate[sync.WaitGroup]", "sync.fatal", "sync/atomic.OrUint64", "sync/atomic.AddUint64", "internal/race.Read", "sync/atomic.LoadUint64", "sync/atomic.StoreUint64", "internal/synctest.Disassociate[sync.WaitGroup]", "sync.runtime_Semrelease", "(*sync.WaitGroup).Done", "(*sync.WaitGroup).Wait", "internal/race.Acquire", "internal/synctest.IsAssociated[sync.WaitGroup]", "sync/atomic.CompareAndSwapUint64", "internal/race.Write", "sync.runtime_SemacquireWaitGroup"], unfollowed := true, recurses := true, named := ["errors.errorType"], plainKeys := false, leaving := true, apart := false, laid := [("errors.errorType", laid_errors_errorType)], narrowed := true }
def BargainChecksUptoSaid : Prop := bargainChecksUptoRow.holds Tryz.pinned (OpenSpec.upto bargainChecksSpec)

/-- 'palfreylaw03.BargainMoves', WHERE WHAT IT READS IS OF BULK AT MOST 1048576: true; the input reads as it did. -/
def bargainMovesUptoRow : OpenClaim := { program := "ytndbdhbkakipmaagreatdoor", sum := "facfbeb33964dc478566eddadfd5ad8d1b304b4dd9f3e7d3ca36fca49ac41b2f", func := "palfrey/palfreylaw03.BargainMoves", spec := "bargainMoves", inPlace := ["internal/reflectlite.ValueOf", "(internal/reflectlite.Value).Type", "(internal/reflectlite.Value).IsNil", "internal/reflectlite.TypeOf", "(internal/reflectlite.Value).Elem", "(internal/reflectlite.Value).Set", "(*sync.WaitGroup).Add", "internal/race.ReleaseMerge", "internal/race.Disable", "internal/race.Enable", "internal/synctest.IsInBubble", "internal/synctest.Associate[sync.WaitGroup]", "sync.fatal", "sync/atomic.OrUint64", "sync/atomic.AddUint64", "internal/race.Read", "sync/atomic.LoadUint64", "sync/atomic.StoreUint64", "internal/synctest.Disassociate[sync.WaitGroup]", "sync.runtime_Semrelease", "(*sync.WaitGroup).Done", "(*sync.WaitGroup).Wait", "internal/race.Acquire", "internal/synctest.IsAssociated[sync.WaitGroup]", "sync/atomic.CompareAndSwapUint64", "internal/race.Write", "sync.runtime_SemacquireWaitGroup"], unfollowed := true, recurses := true, named := ["errors.errorType"], plainKeys := false, leaving := true, apart := false, laid := [("errors.errorType", laid_errors_errorType)], narrowed := true }
def BargainMovesUptoSaid : Prop := bargainMovesUptoRow.holds Tryz.pinned (OpenSpec.upto bargainMovesSpec)

/-- 'palfreylaw03.BargainOutcomes', WHERE WHAT IT READS IS OF BULK AT MOST 1048576: true; the input reads as it did. -/
def bargainOutcomesUptoRow : OpenClaim := { program := "ytndbdhbkakipmaagreatdoor", sum := "facfbeb33964dc478566eddadfd5ad8d1b304b4dd9f3e7d3ca36fca49ac41b2f", func := "palfrey/palfreylaw03.BargainOutcomes", spec := "bargainOutcomes", inPlace := ["internal/reflectlite.ValueOf", "(internal/reflectlite.Value).Type", "(internal/reflectlite.Value).IsNil", "internal/reflectlite.TypeOf", "(internal/reflectlite.Value).Elem", "(internal/reflectlite.Value).Set", "(*sync.WaitGroup).Add", "internal/race.ReleaseMerge", "internal/race.Disable", "internal/race.Enable", "internal/synctest.IsInBubble", "internal/synctest.Associate[sync.WaitGroup]", "sync.fatal", "sync/atomic.OrUint64", "sync/atomic.AddUint64", "internal/race.Read", "sync/atomic.LoadUint64", "sync/atomic.StoreUint64", "internal/synctest.Disassociate[sync.WaitGroup]", "sync.runtime_Semrelease", "(*sync.WaitGroup).Done", "(*sync.WaitGroup).Wait", "internal/race.Acquire", "internal/synctest.IsAssociated[sync.WaitGroup]", "sync/atomic.CompareAndSwapUint64", "internal/race.Write", "sync.runtime_SemacquireWaitGroup"], unfollowed := true, recurses := true, named := ["errors.errorType"], plainKeys := false, leaving := true, apart := false, laid := [("errors.errorType", laid_errors_errorType)], narrowed := true }
def BargainOutcomesUptoSaid : Prop := bargainOutcomesUptoRow.holds Tryz.pinned (OpenSpec.upto bargainOutcomesSpec)

end Rows
end Go.Proofs.YtndbdhbkakipmaaGreatDoor
