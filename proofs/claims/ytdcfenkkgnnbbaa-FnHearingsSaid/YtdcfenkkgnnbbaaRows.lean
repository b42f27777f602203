/-
  No cell of these rows narrows 'for every input' (looked for: loops, veiled, ifaces, maps, wideKeys, modest, calm, conditions, laid).
  DERIVED. THE GIVEN ROWS OF THIS SEAT. 10 by the template 'for every input the law returns true; each argument reads behind the call as it read before'; 0 by the template 'total and deterministic' (their statements: YtdcfenkkgnnbbaaTotals.lean).
  GIVEN WITH THE SEED: the statements are not yours to turn. If you find one false, say at which input.
  Laid BY PROGRAM, IN A SANDBOX (cutbox-rows.mjs): the forced cells as the released guide's own fill.sh prints them over the translation 0c175673f72220a1… (all of the seat's roots in one cut). By AI agents, Wed Nov 11 2026. No macro, syntax, notation, axiom, sorry.
-/
import Derived.Test.YtdcfenkkgnnbbaaChecked
import GoSem.Claim
import GoSem.ClaimJoined
import GoSem.ClaimMapViews
import Derived.JoinedTies
import Derived.KernelRfl
namespace Go.Proofs.Ytdcfenkkgnnbbaa
/- THE CELL 'sum', in the pinned program and in every row, IS THE sha256 OF THE DUMP (.gsa) THAT YtdcfenkkgnnbbaaProg.lean LOADS. Nothing in Lean hashes anything: it is a label: what it is worth is what the hold of that sum in a sandbox is worth. -/
noncomputable def Try.pinned : Pinned := { name := "ytdcfenkkgnnbbaa", sum := "0c175673f72220a15b9f839bfa4392a4a7743a4b0bce92cc6185b9fd81c73973", checked := Try.checked }
namespace Rows
def none {H : Type} : Left H := { results := [], args := [] }

/-- 'laws.FnExactDoesFit': WHATEVER THE INPUT: true; the input reads as it did. -/
def fnExactDoesFitSpec : ChangeSpec := { name := "fnExactDoesFit", fn := fun _ => fun
  | [d1, d2] => { results := [.lit (.bool true)], args := [d1, d2] }
  | _ => none }
def fnExactDoesFitRow : OpenClaim := { program := "ytdcfenkkgnnbbaa", sum := "0c175673f72220a15b9f839bfa4392a4a7743a4b0bce92cc6185b9fd81c73973", func := "loop.example/g01027/laws.FnExactDoesFit", spec := "fnExactDoesFit", apart := false }
def FnExactDoesFitSaid : Prop := fnExactDoesFitRow.holds Try.pinned (OpenSpec.ofChange fnExactDoesFitSpec)

/-- ITS FALSE NEIGHBOUR: 'it returns false'. Refute it at one input. -/
def fnExactDoesFitWrong : ChangeSpec := { name := "fnExactDoesFit", fn := fun _ => fun
  | [d1, d2] => { results := [.lit (.bool false)], args := [d1, d2] }
  | _ => none }
def FnExactDoesFitWrongFalsely : Prop := fnExactDoesFitRow.holds Try.pinned (OpenSpec.ofChange fnExactDoesFitWrong)

/-- 'laws.FnExactAreHearings': WHATEVER THE INPUT: true; the input reads as it did. -/
def fnExactAreHearingsSpec : ChangeSpec := { name := "fnExactAreHearings", fn := fun _ => fun
  | [d] => { results := [.lit (.bool true)], args := [d] }
  | _ => none }
def fnExactAreHearingsRow : OpenClaim := { program := "ytdcfenkkgnnbbaa", sum := "0c175673f72220a15b9f839bfa4392a4a7743a4b0bce92cc6185b9fd81c73973", func := "loop.example/g01027/laws.FnExactAreHearings", spec := "fnExactAreHearings", unfollowed := true, recurses := true, apart := false }
def FnExactAreHearingsSaid : Prop := fnExactAreHearingsRow.holds Try.pinned (OpenSpec.ofChange fnExactAreHearingsSpec)

/-- ITS FALSE NEIGHBOUR: 'it returns false'. Refute it at one input. -/
def fnExactAreHearingsWrong : ChangeSpec := { name := "fnExactAreHearings", fn := fun _ => fun
  | [d] => { results := [.lit (.bool false)], args := [d] }
  | _ => none }
def FnExactAreHearingsWrongFalsely : Prop := fnExactAreHearingsRow.holds Try.pinned (OpenSpec.ofChange fnExactAreHearingsWrong)

/-- 'laws.FnExactDoClash': WHATEVER THE INPUT: true; the input reads as it did. -/
def fnExactDoClashSpec : ChangeSpec := { name := "fnExactDoClash", fn := fun _ => fun
  | [d1, d2, d3, d4] => { results := [.lit (.bool true)], args := [d1, d2, d3, d4] }
  | _ => none }
def fnExactDoClashRow : OpenClaim := { program := "ytdcfenkkgnnbbaa", sum := "0c175673f72220a15b9f839bfa4392a4a7743a4b0bce92cc6185b9fd81c73973", func := "loop.example/g01027/laws.FnExactDoClash", spec := "fnExactDoClash", recurses := true, apart := false }
def FnExactDoClashSaid : Prop := fnExactDoClashRow.holds Try.pinned (OpenSpec.ofChange fnExactDoClashSpec)

/-- ITS FALSE NEIGHBOUR: 'it returns false'. Refute it at one input. -/
def fnExactDoClashWrong : ChangeSpec := { name := "fnExactDoClash", fn := fun _ => fun
  | [d1, d2, d3, d4] => { results := [.lit (.bool false)], args := [d1, d2, d3, d4] }
  | _ => none }
def FnExactDoClashWrongFalsely : Prop := fnExactDoClashRow.holds Try.pinned (OpenSpec.ofChange fnExactDoClashWrong)

/-- 'laws.FnExactSharedPeople': WHATEVER THE INPUT: true; the input reads as it did. -/
def fnExactSharedPeopleSpec : ChangeSpec := { name := "fnExactSharedPeople", fn := fun _ => fun
  | [d1, d2] => { results := [.lit (.bool true)], args := [d1, d2] }
  | _ => none }
def fnExactSharedPeopleRow : OpenClaim := { program := "ytdcfenkkgnnbbaa", sum := "0c175673f72220a15b9f839bfa4392a4a7743a4b0bce92cc6185b9fd81c73973", func := "loop.example/g01027/laws.FnExactSharedPeople", spec := "fnExactSharedPeople", recurses := true, apart := false }
def FnExactSharedPeopleSaid : Prop := fnExactSharedPeopleRow.holds Try.pinned (OpenSpec.ofChange fnExactSharedPeopleSpec)

/-- ITS FALSE NEIGHBOUR: 'it returns false'. Refute it at one input. -/
def fnExactSharedPeopleWrong : ChangeSpec := { name := "fnExactSharedPeople", fn := fun _ => fun
  | [d1, d2] => { results := [.lit (.bool false)], args := [d1, d2] }
  | _ => none }
def FnExactSharedPeopleWrongFalsely : Prop := fnExactSharedPeopleRow.holds Try.pinned (OpenSpec.ofChange fnExactSharedPeopleWrong)

/-- 'laws.FnExactIsPlan': WHATEVER THE INPUT: true; the input reads as it did. -/
def fnExactIsPlanSpec : ChangeSpec := { name := "fnExactIsPlan", fn := fun _ => fun
  | [d1, d2] => { results := [.lit (.bool true)], args := [d1, d2] }
  | _ => none }
def fnExactIsPlanRow : OpenClaim := { program := "ytdcfenkkgnnbbaa", sum := "0c175673f72220a15b9f839bfa4392a4a7743a4b0bce92cc6185b9fd81c73973", func := "loop.example/g01027/laws.FnExactIsPlan", spec := "fnExactIsPlan", unfollowed := true, recurses := true, apart := false }
def FnExactIsPlanSaid : Prop := fnExactIsPlanRow.holds Try.pinned (OpenSpec.ofChange fnExactIsPlanSpec)

/-- ITS FALSE NEIGHBOUR: 'it returns false'. Refute it at one input. -/
def fnExactIsPlanWrong : ChangeSpec := { name := "fnExactIsPlan", fn := fun _ => fun
  | [d1, d2] => { results := [.lit (.bool false)], args := [d1, d2] }
  | _ => none }
def FnExactIsPlanWrongFalsely : Prop := fnExactIsPlanRow.holds Try.pinned (OpenSpec.ofChange fnExactIsPlanWrong)

/-- 'laws.FnExactClashesOf': WHATEVER THE INPUT: true; the input reads as it did. -/
def fnExactClashesOfSpec : ChangeSpec := { name := "fnExactClashesOf", fn := fun _ => fun
  | [d1, d2] => { results := [.lit (.bool true)], args := [d1, d2] }
  | _ => none }
def fnExactClashesOfRow : OpenClaim := { program := "ytdcfenkkgnnbbaa", sum := "0c175673f72220a15b9f839bfa4392a4a7743a4b0bce92cc6185b9fd81c73973", func := "loop.example/g01027/laws.FnExactClashesOf", spec := "fnExactClashesOf", unfollowed := true, recurses := true, apart := false }
def FnExactClashesOfSaid : Prop := fnExactClashesOfRow.holds Try.pinned (OpenSpec.ofChange fnExactClashesOfSpec)

/-- ITS FALSE NEIGHBOUR: 'it returns false'. Refute it at one input. -/
def fnExactClashesOfWrong : ChangeSpec := { name := "fnExactClashesOf", fn := fun _ => fun
  | [d1, d2] => { results := [.lit (.bool false)], args := [d1, d2] }
  | _ => none }
def FnExactClashesOfWrongFalsely : Prop := fnExactClashesOfRow.holds Try.pinned (OpenSpec.ofChange fnExactClashesOfWrong)

/-- 'laws.FnExactBookPlan': WHATEVER THE INPUT: true; the input reads as it did. -/
def fnExactBookPlanSpec : ChangeSpec := { name := "fnExactBookPlan", fn := fun _ => fun
  | [d1, d2] => { results := [.lit (.bool true)], args := [d1, d2] }
  | _ => none }
def fnExactBookPlanRow : OpenClaim := { program := "ytdcfenkkgnnbbaa", sum := "0c175673f72220a15b9f839bfa4392a4a7743a4b0bce92cc6185b9fd81c73973", func := "loop.example/g01027/laws.FnExactBookPlan", spec := "fnExactBookPlan", unfollowed := true, recurses := true, apart := false }
def FnExactBookPlanSaid : Prop := fnExactBookPlanRow.holds Try.pinned (OpenSpec.ofChange fnExactBookPlanSpec)

/-- ITS FALSE NEIGHBOUR: 'it returns false'. Refute it at one input. -/
def fnExactBookPlanWrong : ChangeSpec := { name := "fnExactBookPlan", fn := fun _ => fun
  | [d1, d2] => { results := [.lit (.bool false)], args := [d1, d2] }
  | _ => none }
def FnExactBookPlanWrongFalsely : Prop := fnExactBookPlanRow.holds Try.pinned (OpenSpec.ofChange fnExactBookPlanWrong)

/-- 'laws.FnHearings': WHATEVER THE INPUT: true; the input reads as it did. -/
def fnHearingsSpec : ChangeSpec := { name := "fnHearings", fn := fun _ => fun
  | [d] => { results := [.lit (.bool true)], args := [d] }
  | _ => none }
def fnHearingsRow : OpenClaim := { program := "ytdcfenkkgnnbbaa", sum := "0c175673f72220a15b9f839bfa4392a4a7743a4b0bce92cc6185b9fd81c73973", func := "loop.example/g01027/laws.FnHearings", spec := "fnHearings", unfollowed := true, recurses := true, apart := false }
def FnHearingsSaid : Prop := fnHearingsRow.holds Try.pinned (OpenSpec.ofChange fnHearingsSpec)

/-- ITS FALSE NEIGHBOUR: 'it returns false'. Refute it at one input. -/
def fnHearingsWrong : ChangeSpec := { name := "fnHearings", fn := fun _ => fun
  | [d] => { results := [.lit (.bool false)], args := [d] }
  | _ => none }
def FnHearingsWrongFalsely : Prop := fnHearingsRow.holds Try.pinned (OpenSpec.ofChange fnHearingsWrong)

/-- 'laws.FnExactFittingChoices': WHATEVER THE INPUT: true; the input reads as it did. -/
def fnExactFittingChoicesSpec : ChangeSpec := { name := "fnExactFittingChoices", fn := fun _ => fun
  | [d1, d2, d3] => { results := [.lit (.bool true)], args := [d1, d2, d3] }
  | _ => none }
def fnExactFittingChoicesRow : OpenClaim := { program := "ytdcfenkkgnnbbaa", sum := "0c175673f72220a15b9f839bfa4392a4a7743a4b0bce92cc6185b9fd81c73973", func := "loop.example/g01027/laws.FnExactFittingChoices", spec := "fnExactFittingChoices", unfollowed := true, recurses := true, apart := false }
def FnExactFittingChoicesSaid : Prop := fnExactFittingChoicesRow.holds Try.pinned (OpenSpec.ofChange fnExactFittingChoicesSpec)

/-- ITS FALSE NEIGHBOUR: 'it returns false'. Refute it at one input. -/
def fnExactFittingChoicesWrong : ChangeSpec := { name := "fnExactFittingChoices", fn := fun _ => fun
  | [d1, d2, d3] => { results := [.lit (.bool false)], args := [d1, d2, d3] }
  | _ => none }
def FnExactFittingChoicesWrongFalsely : Prop := fnExactFittingChoicesRow.holds Try.pinned (OpenSpec.ofChange fnExactFittingChoicesWrong)

/-- 'laws.FnFitting': WHATEVER THE INPUT: true; the input reads as it did. -/
def fnFittingSpec : ChangeSpec := { name := "fnFitting", fn := fun _ => fun
  | [d] => { results := [.lit (.bool true)], args := [d] }
  | _ => none }
def fnFittingRow : OpenClaim := { program := "ytdcfenkkgnnbbaa", sum := "0c175673f72220a15b9f839bfa4392a4a7743a4b0bce92cc6185b9fd81c73973", func := "loop.example/g01027/laws.FnFitting", spec := "fnFitting", unfollowed := true, recurses := true, apart := false }
def FnFittingSaid : Prop := fnFittingRow.holds Try.pinned (OpenSpec.ofChange fnFittingSpec)

/-- ITS FALSE NEIGHBOUR: 'it returns false'. Refute it at one input. -/
def fnFittingWrong : ChangeSpec := { name := "fnFitting", fn := fun _ => fun
  | [d] => { results := [.lit (.bool false)], args := [d] }
  | _ => none }
def FnFittingWrongFalsely : Prop := fnFittingRow.holds Try.pinned (OpenSpec.ofChange fnFittingWrong)

/- THE SECOND FORM. 'bulk': how many values and letters a reading holds, each counted each time it is reached (what is shared counts as often as it is met; a slice's spare places count too). A statement '..UptoSaid' is the law's where the arguments, and the package variables that the reading takes, are together of bulk at most 1048576: NARROWER than '..Said'. Prove '..Said' where nothing that the law and all that it calls make is longer than what came in: it says more and counts as full. Else prove '..UptoSaid'. A law counts once. -/
mutual
def uptoBulk {H : Type} : DataW H → Nat
  | .lit (.string bytes) => bytes.length + 1
  | .lit _ => 1
  | .nil => 1
  | .ptr d => uptoBulk d + 1
  | .slice elems spare => uptoBulkAll elems + uptoBulkAll spare + 1
  | .agg parts => uptoBulkAll parts + 1
  | .iface _ d => uptoBulk d + 1
  | .map entries => uptoBulkEntries entries + 1
  | .held _ => 1
def uptoBulkAll {H : Type} : List (DataW H) → Nat
  | [] => 0
  | d :: r => uptoBulk d + uptoBulkAll r
def uptoBulkEntries {H : Type} : List (Lit × DataW H) → Nat
  | [] => 0
  | x :: r => uptoBulkEntry x + uptoBulkEntries r
def uptoBulkEntry {H : Type} : Lit × DataW H → Nat
  | (.string bytes, d) => bytes.length + uptoBulk d + 1
  | (_, d) => uptoBulk d + 1
 end
def uptoSmall : (H : Type) → List (DataW H) → Bool := fun _ ds => decide (uptoBulkAll ds ≤ 1048576)
def OpenSpec.upto (s : _root_.Go.ChangeSpec) : _root_.Go.OpenSpec := { _root_.Go.OpenSpec.ofChange s with cond := some uptoSmall }

/-- 'laws.FnExactDoesFit', WHERE WHAT IT READS IS OF BULK AT MOST 1048576: true; the input reads as it did. -/
def fnExactDoesFitUptoRow : OpenClaim := { program := "ytdcfenkkgnnbbaa", sum := "0c175673f72220a15b9f839bfa4392a4a7743a4b0bce92cc6185b9fd81c73973", func := "loop.example/g01027/laws.FnExactDoesFit", spec := "fnExactDoesFit", apart := false, narrowed := true }
def FnExactDoesFitUptoSaid : Prop := fnExactDoesFitUptoRow.holds Try.pinned (OpenSpec.upto fnExactDoesFitSpec)

/-- 'laws.FnExactAreHearings', WHERE WHAT IT READS IS OF BULK AT MOST 1048576: true; the input reads as it did. -/
def fnExactAreHearingsUptoRow : OpenClaim := { program := "ytdcfenkkgnnbbaa", sum := "0c175673f72220a15b9f839bfa4392a4a7743a4b0bce92cc6185b9fd81c73973", func := "loop.example/g01027/laws.FnExactAreHearings", spec := "fnExactAreHearings", unfollowed := true, recurses := true, apart := false, narrowed := true }
def FnExactAreHearingsUptoSaid : Prop := fnExactAreHearingsUptoRow.holds Try.pinned (OpenSpec.upto fnExactAreHearingsSpec)

/-- 'laws.FnExactDoClash', WHERE WHAT IT READS IS OF BULK AT MOST 1048576: true; the input reads as it did. -/
def fnExactDoClashUptoRow : OpenClaim := { program := "ytdcfenkkgnnbbaa", sum := "0c175673f72220a15b9f839bfa4392a4a7743a4b0bce92cc6185b9fd81c73973", func := "loop.example/g01027/laws.FnExactDoClash", spec := "fnExactDoClash", recurses := true, apart := false, narrowed := true }
def FnExactDoClashUptoSaid : Prop := fnExactDoClashUptoRow.holds Try.pinned (OpenSpec.upto fnExactDoClashSpec)

/-- 'laws.FnExactSharedPeople', WHERE WHAT IT READS IS OF BULK AT MOST 1048576: true; the input reads as it did. -/
def fnExactSharedPeopleUptoRow : OpenClaim := { program := "ytdcfenkkgnnbbaa", sum := "0c175673f72220a15b9f839bfa4392a4a7743a4b0bce92cc6185b9fd81c73973", func := "loop.example/g01027/laws.FnExactSharedPeople", spec := "fnExactSharedPeople", recurses := true, apart := false, narrowed := true }
def FnExactSharedPeopleUptoSaid : Prop := fnExactSharedPeopleUptoRow.holds Try.pinned (OpenSpec.upto fnExactSharedPeopleSpec)

/-- 'laws.FnExactIsPlan', WHERE WHAT IT READS IS OF BULK AT MOST 1048576: true; the input reads as it did. -/
def fnExactIsPlanUptoRow : OpenClaim := { program := "ytdcfenkkgnnbbaa", sum := "0c175673f72220a15b9f839bfa4392a4a7743a4b0bce92cc6185b9fd81c73973", func := "loop.example/g01027/laws.FnExactIsPlan", spec := "fnExactIsPlan", unfollowed := true, recurses := true, apart := false, narrowed := true }
def FnExactIsPlanUptoSaid : Prop := fnExactIsPlanUptoRow.holds Try.pinned (OpenSpec.upto fnExactIsPlanSpec)

/-- 'laws.FnExactClashesOf', WHERE WHAT IT READS IS OF BULK AT MOST 1048576: true; the input reads as it did. -/
def fnExactClashesOfUptoRow : OpenClaim := { program := "ytdcfenkkgnnbbaa", sum := "0c175673f72220a15b9f839bfa4392a4a7743a4b0bce92cc6185b9fd81c73973", func := "loop.example/g01027/laws.FnExactClashesOf", spec := "fnExactClashesOf", unfollowed := true, recurses := true, apart := false, narrowed := true }
def FnExactClashesOfUptoSaid : Prop := fnExactClashesOfUptoRow.holds Try.pinned (OpenSpec.upto fnExactClashesOfSpec)

/-- 'laws.FnExactBookPlan', WHERE WHAT IT READS IS OF BULK AT MOST 1048576: true; the input reads as it did. -/
def fnExactBookPlanUptoRow : OpenClaim := { program := "ytdcfenkkgnnbbaa", sum := "0c175673f72220a15b9f839bfa4392a4a7743a4b0bce92cc6185b9fd81c73973", func := "loop.example/g01027/laws.FnExactBookPlan", spec := "fnExactBookPlan", unfollowed := true, recurses := true, apart := false, narrowed := true }
def FnExactBookPlanUptoSaid : Prop := fnExactBookPlanUptoRow.holds Try.pinned (OpenSpec.upto fnExactBookPlanSpec)

/-- 'laws.FnHearings', WHERE WHAT IT READS IS OF BULK AT MOST 1048576: true; the input reads as it did. -/
def fnHearingsUptoRow : OpenClaim := { program := "ytdcfenkkgnnbbaa", sum := "0c175673f72220a15b9f839bfa4392a4a7743a4b0bce92cc6185b9fd81c73973", func := "loop.example/g01027/laws.FnHearings", spec := "fnHearings", unfollowed := true, recurses := true, apart := false, narrowed := true }
def FnHearingsUptoSaid : Prop := fnHearingsUptoRow.holds Try.pinned (OpenSpec.upto fnHearingsSpec)

/-- 'laws.FnExactFittingChoices', WHERE WHAT IT READS IS OF BULK AT MOST 1048576: true; the input reads as it did. -/
def fnExactFittingChoicesUptoRow : OpenClaim := { program := "ytdcfenkkgnnbbaa", sum := "0c175673f72220a15b9f839bfa4392a4a7743a4b0bce92cc6185b9fd81c73973", func := "loop.example/g01027/laws.FnExactFittingChoices", spec := "fnExactFittingChoices", unfollowed := true, recurses := true, apart := false, narrowed := true }
def FnExactFittingChoicesUptoSaid : Prop := fnExactFittingChoicesUptoRow.holds Try.pinned (OpenSpec.upto fnExactFittingChoicesSpec)

/-- 'laws.FnFitting', WHERE WHAT IT READS IS OF BULK AT MOST 1048576: true; the input reads as it did. -/
def fnFittingUptoRow : OpenClaim := { program := "ytdcfenkkgnnbbaa", sum := "0c175673f72220a15b9f839bfa4392a4a7743a4b0bce92cc6185b9fd81c73973", func := "loop.example/g01027/laws.FnFitting", spec := "fnFitting", unfollowed := true, recurses := true, apart := false, narrowed := true }
def FnFittingUptoSaid : Prop := fnFittingUptoRow.holds Try.pinned (OpenSpec.upto fnFittingSpec)

end Rows
end Go.Proofs.Ytdcfenkkgnnbbaa
