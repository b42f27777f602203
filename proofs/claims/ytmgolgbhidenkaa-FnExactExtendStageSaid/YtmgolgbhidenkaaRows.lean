/-
  No cell of these rows narrows 'for every input' (looked for: loops, veiled, ifaces, maps, wideKeys, modest, calm, conditions, laid).
  DERIVED. THE GIVEN ROWS OF THIS SEAT. 9 by the template 'for every input the law returns true; each argument reads behind the call as it read before'; 0 by the template 'total and deterministic' (their statements: YtmgolgbhidenkaaTotals.lean).
  GIVEN WITH THE SEED: the statements are not yours to turn. If you find one false, say at which input.
  Laid BY PROGRAM, IN A SANDBOX (cutbox-rows.mjs): the forced cells as the released guide's own fill.sh prints them over the translation 9406403ded60d385… (all of the seat's roots in one cut). By AI agents, Wed Nov 11 2026. No macro, syntax, notation, axiom, sorry.
-/
import Derived.Test.YtmgolgbhidenkaaChecked
import GoSem.Claim
import GoSem.ClaimJoined
import GoSem.ClaimMapViews
import Derived.JoinedTies
import Derived.KernelRfl
namespace Go.Proofs.Ytmgolgbhidenkaa
/- THE CELL 'sum', in the pinned program and in every row, IS THE sha256 OF THE DUMP (.gsa) THAT YtmgolgbhidenkaaProg.lean LOADS. Nothing in Lean hashes anything: it is a label: what it is worth is what the hold of that sum in a sandbox is worth. -/
noncomputable def Try.pinned : Pinned := { name := "ytmgolgbhidenkaa", sum := "9406403ded60d385464a6f19d3cd45c583b83b4c59f2415d89dfdbdfb4933ae9", checked := Try.checked }
namespace Rows
def none {H : Type} : Left H := { results := [], args := [] }

/-- 'laws.FnExactIsCustody': WHATEVER THE INPUT: true; the input reads as it did. -/
def fnExactIsCustodySpec : ChangeSpec := { name := "fnExactIsCustody", fn := fun _ => fun
  | [d1, d2] => { results := [.lit (.bool true)], args := [d1, d2] }
  | _ => none }
def fnExactIsCustodyRow : OpenClaim := { program := "ytmgolgbhidenkaa", sum := "9406403ded60d385464a6f19d3cd45c583b83b4c59f2415d89dfdbdfb4933ae9", func := "loop.example/g01027/laws.FnExactIsCustody", spec := "fnExactIsCustody", unfollowed := true, recurses := true, apart := false }
def FnExactIsCustodySaid : Prop := fnExactIsCustodyRow.holds Try.pinned (OpenSpec.ofChange fnExactIsCustodySpec)

/-- ITS FALSE NEIGHBOUR: 'it returns false'. Refute it at one input. -/
def fnExactIsCustodyWrong : ChangeSpec := { name := "fnExactIsCustody", fn := fun _ => fun
  | [d1, d2] => { results := [.lit (.bool false)], args := [d1, d2] }
  | _ => none }
def FnExactIsCustodyWrongFalsely : Prop := fnExactIsCustodyRow.holds Try.pinned (OpenSpec.ofChange fnExactIsCustodyWrong)

/-- 'laws.FnExactIsLawful': WHATEVER THE INPUT: true; the input reads as it did. -/
def fnExactIsLawfulSpec : ChangeSpec := { name := "fnExactIsLawful", fn := fun _ => fun
  | [d1, d2, d3] => { results := [.lit (.bool true)], args := [d1, d2, d3] }
  | _ => none }
def fnExactIsLawfulRow : OpenClaim := { program := "ytmgolgbhidenkaa", sum := "9406403ded60d385464a6f19d3cd45c583b83b4c59f2415d89dfdbdfb4933ae9", func := "loop.example/g01027/laws.FnExactIsLawful", spec := "fnExactIsLawful", unfollowed := true, recurses := true, apart := false }
def FnExactIsLawfulSaid : Prop := fnExactIsLawfulRow.holds Try.pinned (OpenSpec.ofChange fnExactIsLawfulSpec)

/-- ITS FALSE NEIGHBOUR: 'it returns false'. Refute it at one input. -/
def fnExactIsLawfulWrong : ChangeSpec := { name := "fnExactIsLawful", fn := fun _ => fun
  | [d1, d2, d3] => { results := [.lit (.bool false)], args := [d1, d2, d3] }
  | _ => none }
def FnExactIsLawfulWrongFalsely : Prop := fnExactIsLawfulRow.holds Try.pinned (OpenSpec.ofChange fnExactIsLawfulWrong)

/-- 'laws.FnExactLatestEnd': WHATEVER THE INPUT: true; the input reads as it did. -/
def fnExactLatestEndSpec : ChangeSpec := { name := "fnExactLatestEnd", fn := fun _ => fun
  | [d1, d2, d3] => { results := [.lit (.bool true)], args := [d1, d2, d3] }
  | _ => none }
def fnExactLatestEndRow : OpenClaim := { program := "ytmgolgbhidenkaa", sum := "9406403ded60d385464a6f19d3cd45c583b83b4c59f2415d89dfdbdfb4933ae9", func := "loop.example/g01027/laws.FnExactLatestEnd", spec := "fnExactLatestEnd", unfollowed := true, recurses := true, apart := false }
def FnExactLatestEndSaid : Prop := fnExactLatestEndRow.holds Try.pinned (OpenSpec.ofChange fnExactLatestEndSpec)

/-- ITS FALSE NEIGHBOUR: 'it returns false'. Refute it at one input. -/
def fnExactLatestEndWrong : ChangeSpec := { name := "fnExactLatestEnd", fn := fun _ => fun
  | [d1, d2, d3] => { results := [.lit (.bool false)], args := [d1, d2, d3] }
  | _ => none }
def FnExactLatestEndWrongFalsely : Prop := fnExactLatestEndRow.holds Try.pinned (OpenSpec.ofChange fnExactLatestEndWrong)

/-- 'laws.FnExactDaysLeft': WHATEVER THE INPUT: true; the input reads as it did. -/
def fnExactDaysLeftSpec : ChangeSpec := { name := "fnExactDaysLeft", fn := fun _ => fun
  | [d1, d2, d3, d4] => { results := [.lit (.bool true)], args := [d1, d2, d3, d4] }
  | _ => none }
def fnExactDaysLeftRow : OpenClaim := { program := "ytmgolgbhidenkaa", sum := "9406403ded60d385464a6f19d3cd45c583b83b4c59f2415d89dfdbdfb4933ae9", func := "loop.example/g01027/laws.FnExactDaysLeft", spec := "fnExactDaysLeft", unfollowed := true, recurses := true, apart := false }
def FnExactDaysLeftSaid : Prop := fnExactDaysLeftRow.holds Try.pinned (OpenSpec.ofChange fnExactDaysLeftSpec)

/-- ITS FALSE NEIGHBOUR: 'it returns false'. Refute it at one input. -/
def fnExactDaysLeftWrong : ChangeSpec := { name := "fnExactDaysLeft", fn := fun _ => fun
  | [d1, d2, d3, d4] => { results := [.lit (.bool false)], args := [d1, d2, d3, d4] }
  | _ => none }
def FnExactDaysLeftWrongFalsely : Prop := fnExactDaysLeftRow.holds Try.pinned (OpenSpec.ofChange fnExactDaysLeftWrong)

/-- 'laws.FnExactLimitOf': WHATEVER THE INPUT: true; the input reads as it did. -/
def fnExactLimitOfSpec : ChangeSpec := { name := "fnExactLimitOf", fn := fun _ => fun
  | [d1, d2, d3] => { results := [.lit (.bool true)], args := [d1, d2, d3] }
  | _ => none }
def fnExactLimitOfRow : OpenClaim := { program := "ytmgolgbhidenkaa", sum := "9406403ded60d385464a6f19d3cd45c583b83b4c59f2415d89dfdbdfb4933ae9", func := "loop.example/g01027/laws.FnExactLimitOf", spec := "fnExactLimitOf", unfollowed := true, recurses := true, apart := false }
def FnExactLimitOfSaid : Prop := fnExactLimitOfRow.holds Try.pinned (OpenSpec.ofChange fnExactLimitOfSpec)

/-- ITS FALSE NEIGHBOUR: 'it returns false'. Refute it at one input. -/
def fnExactLimitOfWrong : ChangeSpec := { name := "fnExactLimitOf", fn := fun _ => fun
  | [d1, d2, d3] => { results := [.lit (.bool false)], args := [d1, d2, d3] }
  | _ => none }
def FnExactLimitOfWrongFalsely : Prop := fnExactLimitOfRow.holds Try.pinned (OpenSpec.ofChange fnExactLimitOfWrong)

/-- 'laws.FnLimits': WHATEVER THE INPUT: true; the input reads as it did. -/
def fnLimitsSpec : ChangeSpec := { name := "fnLimits", fn := fun _ => fun
  | [d] => { results := [.lit (.bool true)], args := [d] }
  | _ => none }
def fnLimitsRow : OpenClaim := { program := "ytmgolgbhidenkaa", sum := "9406403ded60d385464a6f19d3cd45c583b83b4c59f2415d89dfdbdfb4933ae9", func := "loop.example/g01027/laws.FnLimits", spec := "fnLimits", unfollowed := true, recurses := true, apart := false }
def FnLimitsSaid : Prop := fnLimitsRow.holds Try.pinned (OpenSpec.ofChange fnLimitsSpec)

/-- ITS FALSE NEIGHBOUR: 'it returns false'. Refute it at one input. -/
def fnLimitsWrong : ChangeSpec := { name := "fnLimits", fn := fun _ => fun
  | [d] => { results := [.lit (.bool false)], args := [d] }
  | _ => none }
def FnLimitsWrongFalsely : Prop := fnLimitsRow.holds Try.pinned (OpenSpec.ofChange fnLimitsWrong)

/-- 'laws.FnCustody': WHATEVER THE INPUT: true; the input reads as it did. -/
def fnCustodySpec : ChangeSpec := { name := "fnCustody", fn := fun _ => fun
  | [d] => { results := [.lit (.bool true)], args := [d] }
  | _ => none }
def fnCustodyRow : OpenClaim := { program := "ytmgolgbhidenkaa", sum := "9406403ded60d385464a6f19d3cd45c583b83b4c59f2415d89dfdbdfb4933ae9", func := "loop.example/g01027/laws.FnCustody", spec := "fnCustody", unfollowed := true, recurses := true, apart := false }
def FnCustodySaid : Prop := fnCustodyRow.holds Try.pinned (OpenSpec.ofChange fnCustodySpec)

/-- ITS FALSE NEIGHBOUR: 'it returns false'. Refute it at one input. -/
def fnCustodyWrong : ChangeSpec := { name := "fnCustody", fn := fun _ => fun
  | [d] => { results := [.lit (.bool false)], args := [d] }
  | _ => none }
def FnCustodyWrongFalsely : Prop := fnCustodyRow.holds Try.pinned (OpenSpec.ofChange fnCustodyWrong)

/-- 'laws.FnExactReachStage': WHATEVER THE INPUT: true; the input reads as it did. -/
def fnExactReachStageSpec : ChangeSpec := { name := "fnExactReachStage", fn := fun _ => fun
  | [d1, d2, d3, d4] => { results := [.lit (.bool true)], args := [d1, d2, d3, d4] }
  | _ => none }
def fnExactReachStageRow : OpenClaim := { program := "ytmgolgbhidenkaa", sum := "9406403ded60d385464a6f19d3cd45c583b83b4c59f2415d89dfdbdfb4933ae9", func := "loop.example/g01027/laws.FnExactReachStage", spec := "fnExactReachStage", unfollowed := true, recurses := true, apart := false }
def FnExactReachStageSaid : Prop := fnExactReachStageRow.holds Try.pinned (OpenSpec.ofChange fnExactReachStageSpec)

/-- ITS FALSE NEIGHBOUR: 'it returns false'. Refute it at one input. -/
def fnExactReachStageWrong : ChangeSpec := { name := "fnExactReachStage", fn := fun _ => fun
  | [d1, d2, d3, d4] => { results := [.lit (.bool false)], args := [d1, d2, d3, d4] }
  | _ => none }
def FnExactReachStageWrongFalsely : Prop := fnExactReachStageRow.holds Try.pinned (OpenSpec.ofChange fnExactReachStageWrong)

/-- 'laws.FnExactExtendStage': WHATEVER THE INPUT: true; the input reads as it did. -/
def fnExactExtendStageSpec : ChangeSpec := { name := "fnExactExtendStage", fn := fun _ => fun
  | [d1, d2, d3, d4] => { results := [.lit (.bool true)], args := [d1, d2, d3, d4] }
  | _ => none }
def fnExactExtendStageRow : OpenClaim := { program := "ytmgolgbhidenkaa", sum := "9406403ded60d385464a6f19d3cd45c583b83b4c59f2415d89dfdbdfb4933ae9", func := "loop.example/g01027/laws.FnExactExtendStage", spec := "fnExactExtendStage", unfollowed := true, recurses := true, apart := false }
def FnExactExtendStageSaid : Prop := fnExactExtendStageRow.holds Try.pinned (OpenSpec.ofChange fnExactExtendStageSpec)

/-- ITS FALSE NEIGHBOUR: 'it returns false'. Refute it at one input. -/
def fnExactExtendStageWrong : ChangeSpec := { name := "fnExactExtendStage", fn := fun _ => fun
  | [d1, d2, d3, d4] => { results := [.lit (.bool false)], args := [d1, d2, d3, d4] }
  | _ => none }
def FnExactExtendStageWrongFalsely : Prop := fnExactExtendStageRow.holds Try.pinned (OpenSpec.ofChange fnExactExtendStageWrong)

/- THE SECOND FORM. 'bulk': how many values and letters a reading holds, each counted each time it is reached (what is shared counts as often as it is met; a slice's spare places count too). A statement '..UptoSaid' is the law's where the arguments, and the package variables that the reading takes, are together of bulk at most 1048576: NARROWER than '..Said'. Prove '..Said' where nothing that the law and all that it calls make is longer than what came in: it says more and counts as full. Else prove '..UptoSaid'. A law counts once. -/
mutual
def uptoBulk {H : Type} : DataW H → Nat
  | .lit (.string bytes) => bytes.length + 1
  | .lit _ => 1
  | .nil => 1
  | .ptr d => uptoBulk d + 1
  | .slice elems spare => uptoBulkAll elems + uptoBulkAll spare + 1
  | .agg parts => uptoBulkAll parts + 1
  | .iface _ d => uptoBulk d + 1
  | .map entries => uptoBulkEntries entries + 1
  | .held _ => 1
def uptoBulkAll {H : Type} : List (DataW H) → Nat
  | [] => 0
  | d :: r => uptoBulk d + uptoBulkAll r
def uptoBulkEntries {H : Type} : List (Lit × DataW H) → Nat
  | [] => 0
  | x :: r => uptoBulkEntry x + uptoBulkEntries r
def uptoBulkEntry {H : Type} : Lit × DataW H → Nat
  | (.string bytes, d) => bytes.length + uptoBulk d + 1
  | (_, d) => uptoBulk d + 1
 end
def uptoSmall : (H : Type) → List (DataW H) → Bool := fun _ ds => decide (uptoBulkAll ds ≤ 1048576)
def OpenSpec.upto (s : _root_.Go.ChangeSpec) : _root_.Go.OpenSpec := { _root_.Go.OpenSpec.ofChange s with cond := some uptoSmall }

/-- 'laws.FnExactIsCustody', WHERE WHAT IT READS IS OF BULK AT MOST 1048576: true; the input reads as it did. -/
def fnExactIsCustodyUptoRow : OpenClaim := { program := "ytmgolgbhidenkaa", sum := "9406403ded60d385464a6f19d3cd45c583b83b4c59f2415d89dfdbdfb4933ae9", func := "loop.example/g01027/laws.FnExactIsCustody", spec := "fnExactIsCustody", unfollowed := true, recurses := true, apart := false, narrowed := true }
def FnExactIsCustodyUptoSaid : Prop := fnExactIsCustodyUptoRow.holds Try.pinned (OpenSpec.upto fnExactIsCustodySpec)

/-- 'laws.FnExactIsLawful', WHERE WHAT IT READS IS OF BULK AT MOST 1048576: true; the input reads as it did. -/
def fnExactIsLawfulUptoRow : OpenClaim := { program := "ytmgolgbhidenkaa", sum := "9406403ded60d385464a6f19d3cd45c583b83b4c59f2415d89dfdbdfb4933ae9", func := "loop.example/g01027/laws.FnExactIsLawful", spec := "fnExactIsLawful", unfollowed := true, recurses := true, apart := false, narrowed := true }
def FnExactIsLawfulUptoSaid : Prop := fnExactIsLawfulUptoRow.holds Try.pinned (OpenSpec.upto fnExactIsLawfulSpec)

/-- 'laws.FnExactLatestEnd', WHERE WHAT IT READS IS OF BULK AT MOST 1048576: true; the input reads as it did. -/
def fnExactLatestEndUptoRow : OpenClaim := { program := "ytmgolgbhidenkaa", sum := "9406403ded60d385464a6f19d3cd45c583b83b4c59f2415d89dfdbdfb4933ae9", func := "loop.example/g01027/laws.FnExactLatestEnd", spec := "fnExactLatestEnd", unfollowed := true, recurses := true, apart := false, narrowed := true }
def FnExactLatestEndUptoSaid : Prop := fnExactLatestEndUptoRow.holds Try.pinned (OpenSpec.upto fnExactLatestEndSpec)

/-- 'laws.FnExactDaysLeft', WHERE WHAT IT READS IS OF BULK AT MOST 1048576: true; the input reads as it did. -/
def fnExactDaysLeftUptoRow : OpenClaim := { program := "ytmgolgbhidenkaa", sum := "9406403ded60d385464a6f19d3cd45c583b83b4c59f2415d89dfdbdfb4933ae9", func := "loop.example/g01027/laws.FnExactDaysLeft", spec := "fnExactDaysLeft", unfollowed := true, recurses := true, apart := false, narrowed := true }
def FnExactDaysLeftUptoSaid : Prop := fnExactDaysLeftUptoRow.holds Try.pinned (OpenSpec.upto fnExactDaysLeftSpec)

/-- 'laws.FnExactLimitOf', WHERE WHAT IT READS IS OF BULK AT MOST 1048576: true; the input reads as it did. -/
def fnExactLimitOfUptoRow : OpenClaim := { program := "ytmgolgbhidenkaa", sum := "9406403ded60d385464a6f19d3cd45c583b83b4c59f2415d89dfdbdfb4933ae9", func := "loop.example/g01027/laws.FnExactLimitOf", spec := "fnExactLimitOf", unfollowed := true, recurses := true, apart := false, narrowed := true }
def FnExactLimitOfUptoSaid : Prop := fnExactLimitOfUptoRow.holds Try.pinned (OpenSpec.upto fnExactLimitOfSpec)

/-- 'laws.FnLimits', WHERE WHAT IT READS IS OF BULK AT MOST 1048576: true; the input reads as it did. -/
def fnLimitsUptoRow : OpenClaim := { program := "ytmgolgbhidenkaa", sum := "9406403ded60d385464a6f19d3cd45c583b83b4c59f2415d89dfdbdfb4933ae9", func := "loop.example/g01027/laws.FnLimits", spec := "fnLimits", unfollowed := true, recurses := true, apart := false, narrowed := true }
def FnLimitsUptoSaid : Prop := fnLimitsUptoRow.holds Try.pinned (OpenSpec.upto fnLimitsSpec)

/-- 'laws.FnCustody', WHERE WHAT IT READS IS OF BULK AT MOST 1048576: true; the input reads as it did. -/
def fnCustodyUptoRow : OpenClaim := { program := "ytmgolgbhidenkaa", sum := "9406403ded60d385464a6f19d3cd45c583b83b4c59f2415d89dfdbdfb4933ae9", func := "loop.example/g01027/laws.FnCustody", spec := "fnCustody", unfollowed := true, recurses := true, apart := false, narrowed := true }
def FnCustodyUptoSaid : Prop := fnCustodyUptoRow.holds Try.pinned (OpenSpec.upto fnCustodySpec)

/-- 'laws.FnExactReachStage', WHERE WHAT IT READS IS OF BULK AT MOST 1048576: true; the input reads as it did. -/
def fnExactReachStageUptoRow : OpenClaim := { program := "ytmgolgbhidenkaa", sum := "9406403ded60d385464a6f19d3cd45c583b83b4c59f2415d89dfdbdfb4933ae9", func := "loop.example/g01027/laws.FnExactReachStage", spec := "fnExactReachStage", unfollowed := true, recurses := true, apart := false, narrowed := true }
def FnExactReachStageUptoSaid : Prop := fnExactReachStageUptoRow.holds Try.pinned (OpenSpec.upto fnExactReachStageSpec)

/-- 'laws.FnExactExtendStage', WHERE WHAT IT READS IS OF BULK AT MOST 1048576: true; the input reads as it did. -/
def fnExactExtendStageUptoRow : OpenClaim := { program := "ytmgolgbhidenkaa", sum := "9406403ded60d385464a6f19d3cd45c583b83b4c59f2415d89dfdbdfb4933ae9", func := "loop.example/g01027/laws.FnExactExtendStage", spec := "fnExactExtendStage", unfollowed := true, recurses := true, apart := false, narrowed := true }
def FnExactExtendStageUptoSaid : Prop := fnExactExtendStageUptoRow.holds Try.pinned (OpenSpec.upto fnExactExtendStageSpec)

end Rows
end Go.Proofs.Ytmgolgbhidenkaa
