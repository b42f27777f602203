/-
  No cell of these rows narrows 'for every input' (looked for: loops, veiled, ifaces, maps, wideKeys, modest, calm, conditions, laid).
  DERIVED. THE GIVEN ROWS OF THIS SEAT. 8 by the template 'for every input the law returns true; each argument reads behind the call as it read before'; 0 by the template 'total and deterministic' (their statements: YtiglkddhcjlipaaTotals.lean).
  GIVEN WITH THE SEED: the statements are not yours to turn. If you find one false, say at which input.
  Laid BY PROGRAM, IN A SANDBOX (cutbox-rows.mjs): the forced cells as the released guide's own fill.sh prints them over the translation 4c63f9846fff5c3b… (all of the seat's roots in one cut). By AI agents, Wed Nov 11 2026. No macro, syntax, notation, axiom, sorry.
-/
import Derived.Test.YtiglkddhcjlipaaChecked
import GoSem.Claim
import GoSem.ClaimJoined
import GoSem.ClaimMapViews
import Derived.JoinedTies
import Derived.KernelRfl
namespace Go.Proofs.Ytiglkddhcjlipaa
/- THE CELL 'sum', in the pinned program and in every row, IS THE sha256 OF THE DUMP (.gsa) THAT YtiglkddhcjlipaaProg.lean LOADS. Nothing in Lean hashes anything: it is a label: what it is worth is what the hold of that sum in a sandbox is worth. -/
noncomputable def Try.pinned : Pinned := { name := "ytiglkddhcjlipaa", sum := "4c63f9846fff5c3b60e0a743f37a021bfb71820d541cef896912854ab377941b", checked := Try.checked }
namespace Rows
def none {H : Type} : Left H := { results := [], args := [] }

/-- 'laws.FnExactCountCalendars': WHATEVER THE INPUT: true; the input reads as it did. -/
def fnExactCountCalendarsSpec : ChangeSpec := { name := "fnExactCountCalendars", fn := fun _ => fun
  | [d1, d2] => { results := [.lit (.bool true)], args := [d1, d2] }
  | _ => none }
def fnExactCountCalendarsRow : OpenClaim := { program := "ytiglkddhcjlipaa", sum := "4c63f9846fff5c3b60e0a743f37a021bfb71820d541cef896912854ab377941b", func := "loop.example/g01027/laws.FnExactCountCalendars", spec := "fnExactCountCalendars", unfollowed := true, recurses := true, apart := false }
def FnExactCountCalendarsSaid : Prop := fnExactCountCalendarsRow.holds Try.pinned (OpenSpec.ofChange fnExactCountCalendarsSpec)

/-- ITS FALSE NEIGHBOUR: 'it returns false'. Refute it at one input. -/
def fnExactCountCalendarsWrong : ChangeSpec := { name := "fnExactCountCalendars", fn := fun _ => fun
  | [d1, d2] => { results := [.lit (.bool false)], args := [d1, d2] }
  | _ => none }
def FnExactCountCalendarsWrongFalsely : Prop := fnExactCountCalendarsRow.holds Try.pinned (OpenSpec.ofChange fnExactCountCalendarsWrong)

/-- 'laws.FnExactIsCalendar': WHATEVER THE INPUT: true; the input reads as it did. -/
def fnExactIsCalendarSpec : ChangeSpec := { name := "fnExactIsCalendar", fn := fun _ => fun
  | [d1, d2, d3] => { results := [.lit (.bool true)], args := [d1, d2, d3] }
  | _ => none }
def fnExactIsCalendarRow : OpenClaim := { program := "ytiglkddhcjlipaa", sum := "4c63f9846fff5c3b60e0a743f37a021bfb71820d541cef896912854ab377941b", func := "loop.example/g01027/laws.FnExactIsCalendar", spec := "fnExactIsCalendar", unfollowed := true, recurses := true, apart := false }
def FnExactIsCalendarSaid : Prop := fnExactIsCalendarRow.holds Try.pinned (OpenSpec.ofChange fnExactIsCalendarSpec)

/-- ITS FALSE NEIGHBOUR: 'it returns false'. Refute it at one input. -/
def fnExactIsCalendarWrong : ChangeSpec := { name := "fnExactIsCalendar", fn := fun _ => fun
  | [d1, d2, d3] => { results := [.lit (.bool false)], args := [d1, d2, d3] }
  | _ => none }
def FnExactIsCalendarWrongFalsely : Prop := fnExactIsCalendarRow.holds Try.pinned (OpenSpec.ofChange fnExactIsCalendarWrong)

/-- 'laws.FnExactCostOf': WHATEVER THE INPUT: true; the input reads as it did. -/
def fnExactCostOfSpec : ChangeSpec := { name := "fnExactCostOf", fn := fun _ => fun
  | [d1, d2, d3] => { results := [.lit (.bool true)], args := [d1, d2, d3] }
  | _ => none }
def fnExactCostOfRow : OpenClaim := { program := "ytiglkddhcjlipaa", sum := "4c63f9846fff5c3b60e0a743f37a021bfb71820d541cef896912854ab377941b", func := "loop.example/g01027/laws.FnExactCostOf", spec := "fnExactCostOf", unfollowed := true, recurses := true, apart := false }
def FnExactCostOfSaid : Prop := fnExactCostOfRow.holds Try.pinned (OpenSpec.ofChange fnExactCostOfSpec)

/-- ITS FALSE NEIGHBOUR: 'it returns false'. Refute it at one input. -/
def fnExactCostOfWrong : ChangeSpec := { name := "fnExactCostOf", fn := fun _ => fun
  | [d1, d2, d3] => { results := [.lit (.bool false)], args := [d1, d2, d3] }
  | _ => none }
def FnExactCostOfWrongFalsely : Prop := fnExactCostOfRow.holds Try.pinned (OpenSpec.ofChange fnExactCostOfWrong)

/-- 'laws.FnExactForcedChoices': WHATEVER THE INPUT: true; the input reads as it did. -/
def fnExactForcedChoicesSpec : ChangeSpec := { name := "fnExactForcedChoices", fn := fun _ => fun
  | [d1, d2] => { results := [.lit (.bool true)], args := [d1, d2] }
  | _ => none }
def fnExactForcedChoicesRow : OpenClaim := { program := "ytiglkddhcjlipaa", sum := "4c63f9846fff5c3b60e0a743f37a021bfb71820d541cef896912854ab377941b", func := "loop.example/g01027/laws.FnExactForcedChoices", spec := "fnExactForcedChoices", unfollowed := true, recurses := true, apart := false }
def FnExactForcedChoicesSaid : Prop := fnExactForcedChoicesRow.holds Try.pinned (OpenSpec.ofChange fnExactForcedChoicesSpec)

/-- ITS FALSE NEIGHBOUR: 'it returns false'. Refute it at one input. -/
def fnExactForcedChoicesWrong : ChangeSpec := { name := "fnExactForcedChoices", fn := fun _ => fun
  | [d1, d2] => { results := [.lit (.bool false)], args := [d1, d2] }
  | _ => none }
def FnExactForcedChoicesWrongFalsely : Prop := fnExactForcedChoicesRow.holds Try.pinned (OpenSpec.ofChange fnExactForcedChoicesWrong)

/-- 'laws.FnExactBestCalendar': WHATEVER THE INPUT: true; the input reads as it did. -/
def fnExactBestCalendarSpec : ChangeSpec := { name := "fnExactBestCalendar", fn := fun _ => fun
  | [d1, d2] => { results := [.lit (.bool true)], args := [d1, d2] }
  | _ => none }
def fnExactBestCalendarRow : OpenClaim := { program := "ytiglkddhcjlipaa", sum := "4c63f9846fff5c3b60e0a743f37a021bfb71820d541cef896912854ab377941b", func := "loop.example/g01027/laws.FnExactBestCalendar", spec := "fnExactBestCalendar", unfollowed := true, recurses := true, apart := false }
def FnExactBestCalendarSaid : Prop := fnExactBestCalendarRow.holds Try.pinned (OpenSpec.ofChange fnExactBestCalendarSpec)

/-- ITS FALSE NEIGHBOUR: 'it returns false'. Refute it at one input. -/
def fnExactBestCalendarWrong : ChangeSpec := { name := "fnExactBestCalendar", fn := fun _ => fun
  | [d1, d2] => { results := [.lit (.bool false)], args := [d1, d2] }
  | _ => none }
def FnExactBestCalendarWrongFalsely : Prop := fnExactBestCalendarRow.holds Try.pinned (OpenSpec.ofChange fnExactBestCalendarWrong)

/-- 'laws.FnExactMostHeld': WHATEVER THE INPUT: true; the input reads as it did. -/
def fnExactMostHeldSpec : ChangeSpec := { name := "fnExactMostHeld", fn := fun _ => fun
  | [d1, d2] => { results := [.lit (.bool true)], args := [d1, d2] }
  | _ => none }
def fnExactMostHeldRow : OpenClaim := { program := "ytiglkddhcjlipaa", sum := "4c63f9846fff5c3b60e0a743f37a021bfb71820d541cef896912854ab377941b", func := "loop.example/g01027/laws.FnExactMostHeld", spec := "fnExactMostHeld", unfollowed := true, recurses := true, apart := false }
def FnExactMostHeldSaid : Prop := fnExactMostHeldRow.holds Try.pinned (OpenSpec.ofChange fnExactMostHeldSpec)

/-- ITS FALSE NEIGHBOUR: 'it returns false'. Refute it at one input. -/
def fnExactMostHeldWrong : ChangeSpec := { name := "fnExactMostHeld", fn := fun _ => fun
  | [d1, d2] => { results := [.lit (.bool false)], args := [d1, d2] }
  | _ => none }
def FnExactMostHeldWrongFalsely : Prop := fnExactMostHeldRow.holds Try.pinned (OpenSpec.ofChange fnExactMostHeldWrong)

/-- 'laws.FnExactAreDemands': WHATEVER THE INPUT: true; the input reads as it did. -/
def fnExactAreDemandsSpec : ChangeSpec := { name := "fnExactAreDemands", fn := fun _ => fun
  | [d1, d2, d3] => { results := [.lit (.bool true)], args := [d1, d2, d3] }
  | _ => none }
def fnExactAreDemandsRow : OpenClaim := { program := "ytiglkddhcjlipaa", sum := "4c63f9846fff5c3b60e0a743f37a021bfb71820d541cef896912854ab377941b", func := "loop.example/g01027/laws.FnExactAreDemands", spec := "fnExactAreDemands", unfollowed := true, recurses := true, apart := false }
def FnExactAreDemandsSaid : Prop := fnExactAreDemandsRow.holds Try.pinned (OpenSpec.ofChange fnExactAreDemandsSpec)

/-- ITS FALSE NEIGHBOUR: 'it returns false'. Refute it at one input. -/
def fnExactAreDemandsWrong : ChangeSpec := { name := "fnExactAreDemands", fn := fun _ => fun
  | [d1, d2, d3] => { results := [.lit (.bool false)], args := [d1, d2, d3] }
  | _ => none }
def FnExactAreDemandsWrongFalsely : Prop := fnExactAreDemandsRow.holds Try.pinned (OpenSpec.ofChange fnExactAreDemandsWrong)

/-- 'laws.FnExactKeptBy': WHATEVER THE INPUT: true; the input reads as it did. -/
def fnExactKeptBySpec : ChangeSpec := { name := "fnExactKeptBy", fn := fun _ => fun
  | [d1, d2, d3, d4] => { results := [.lit (.bool true)], args := [d1, d2, d3, d4] }
  | _ => none }
def fnExactKeptByRow : OpenClaim := { program := "ytiglkddhcjlipaa", sum := "4c63f9846fff5c3b60e0a743f37a021bfb71820d541cef896912854ab377941b", func := "loop.example/g01027/laws.FnExactKeptBy", spec := "fnExactKeptBy", unfollowed := true, recurses := true, apart := false }
def FnExactKeptBySaid : Prop := fnExactKeptByRow.holds Try.pinned (OpenSpec.ofChange fnExactKeptBySpec)

/-- ITS FALSE NEIGHBOUR: 'it returns false'. Refute it at one input. -/
def fnExactKeptByWrong : ChangeSpec := { name := "fnExactKeptBy", fn := fun _ => fun
  | [d1, d2, d3, d4] => { results := [.lit (.bool false)], args := [d1, d2, d3, d4] }
  | _ => none }
def FnExactKeptByWrongFalsely : Prop := fnExactKeptByRow.holds Try.pinned (OpenSpec.ofChange fnExactKeptByWrong)

/- THE SECOND FORM. 'bulk': how many values and letters a reading holds, each counted each time it is reached (what is shared counts as often as it is met; a slice's spare places count too). A statement '..UptoSaid' is the law's where the arguments, and the package variables that the reading takes, are together of bulk at most 1048576: NARROWER than '..Said'. Prove '..Said' where nothing that the law and all that it calls make is longer than what came in: it says more and counts as full. Else prove '..UptoSaid'. A law counts once. -/
mutual
def uptoBulk {H : Type} : DataW H → Nat
  | .lit (.string bytes) => bytes.length + 1
  | .lit _ => 1
  | .nil => 1
  | .ptr d => uptoBulk d + 1
  | .slice elems spare => uptoBulkAll elems + uptoBulkAll spare + 1
  | .agg parts => uptoBulkAll parts + 1
  | .iface _ d => uptoBulk d + 1
  | .map entries => uptoBulkEntries entries + 1
  | .held _ => 1
def uptoBulkAll {H : Type} : List (DataW H) → Nat
  | [] => 0
  | d :: r => uptoBulk d + uptoBulkAll r
def uptoBulkEntries {H : Type} : List (Lit × DataW H) → Nat
  | [] => 0
  | x :: r => uptoBulkEntry x + uptoBulkEntries r
def uptoBulkEntry {H : Type} : Lit × DataW H → Nat
  | (.string bytes, d) => bytes.length + uptoBulk d + 1
  | (_, d) => uptoBulk d + 1
 end
def uptoSmall : (H : Type) → List (DataW H) → Bool := fun _ ds => decide (uptoBulkAll ds ≤ 1048576)
def OpenSpec.upto (s : _root_.Go.ChangeSpec) : _root_.Go.OpenSpec := { _root_.Go.OpenSpec.ofChange s with cond := some uptoSmall }

/-- 'laws.FnExactCountCalendars', WHERE WHAT IT READS IS OF BULK AT MOST 1048576: true; the input reads as it did. -/
def fnExactCountCalendarsUptoRow : OpenClaim := { program := "ytiglkddhcjlipaa", sum := "4c63f9846fff5c3b60e0a743f37a021bfb71820d541cef896912854ab377941b", func := "loop.example/g01027/laws.FnExactCountCalendars", spec := "fnExactCountCalendars", unfollowed := true, recurses := true, apart := false, narrowed := true }
def FnExactCountCalendarsUptoSaid : Prop := fnExactCountCalendarsUptoRow.holds Try.pinned (OpenSpec.upto fnExactCountCalendarsSpec)

/-- 'laws.FnExactIsCalendar', WHERE WHAT IT READS IS OF BULK AT MOST 1048576: true; the input reads as it did. -/
def fnExactIsCalendarUptoRow : OpenClaim := { program := "ytiglkddhcjlipaa", sum := "4c63f9846fff5c3b60e0a743f37a021bfb71820d541cef896912854ab377941b", func := "loop.example/g01027/laws.FnExactIsCalendar", spec := "fnExactIsCalendar", unfollowed := true, recurses := true, apart := false, narrowed := true }
def FnExactIsCalendarUptoSaid : Prop := fnExactIsCalendarUptoRow.holds Try.pinned (OpenSpec.upto fnExactIsCalendarSpec)

/-- 'laws.FnExactCostOf', WHERE WHAT IT READS IS OF BULK AT MOST 1048576: true; the input reads as it did. -/
def fnExactCostOfUptoRow : OpenClaim := { program := "ytiglkddhcjlipaa", sum := "4c63f9846fff5c3b60e0a743f37a021bfb71820d541cef896912854ab377941b", func := "loop.example/g01027/laws.FnExactCostOf", spec := "fnExactCostOf", unfollowed := true, recurses := true, apart := false, narrowed := true }
def FnExactCostOfUptoSaid : Prop := fnExactCostOfUptoRow.holds Try.pinned (OpenSpec.upto fnExactCostOfSpec)

/-- 'laws.FnExactForcedChoices', WHERE WHAT IT READS IS OF BULK AT MOST 1048576: true; the input reads as it did. -/
def fnExactForcedChoicesUptoRow : OpenClaim := { program := "ytiglkddhcjlipaa", sum := "4c63f9846fff5c3b60e0a743f37a021bfb71820d541cef896912854ab377941b", func := "loop.example/g01027/laws.FnExactForcedChoices", spec := "fnExactForcedChoices", unfollowed := true, recurses := true, apart := false, narrowed := true }
def FnExactForcedChoicesUptoSaid : Prop := fnExactForcedChoicesUptoRow.holds Try.pinned (OpenSpec.upto fnExactForcedChoicesSpec)

/-- 'laws.FnExactBestCalendar', WHERE WHAT IT READS IS OF BULK AT MOST 1048576: true; the input reads as it did. -/
def fnExactBestCalendarUptoRow : OpenClaim := { program := "ytiglkddhcjlipaa", sum := "4c63f9846fff5c3b60e0a743f37a021bfb71820d541cef896912854ab377941b", func := "loop.example/g01027/laws.FnExactBestCalendar", spec := "fnExactBestCalendar", unfollowed := true, recurses := true, apart := false, narrowed := true }
def FnExactBestCalendarUptoSaid : Prop := fnExactBestCalendarUptoRow.holds Try.pinned (OpenSpec.upto fnExactBestCalendarSpec)

/-- 'laws.FnExactMostHeld', WHERE WHAT IT READS IS OF BULK AT MOST 1048576: true; the input reads as it did. -/
def fnExactMostHeldUptoRow : OpenClaim := { program := "ytiglkddhcjlipaa", sum := "4c63f9846fff5c3b60e0a743f37a021bfb71820d541cef896912854ab377941b", func := "loop.example/g01027/laws.FnExactMostHeld", spec := "fnExactMostHeld", unfollowed := true, recurses := true, apart := false, narrowed := true }
def FnExactMostHeldUptoSaid : Prop := fnExactMostHeldUptoRow.holds Try.pinned (OpenSpec.upto fnExactMostHeldSpec)

/-- 'laws.FnExactAreDemands', WHERE WHAT IT READS IS OF BULK AT MOST 1048576: true; the input reads as it did. -/
def fnExactAreDemandsUptoRow : OpenClaim := { program := "ytiglkddhcjlipaa", sum := "4c63f9846fff5c3b60e0a743f37a021bfb71820d541cef896912854ab377941b", func := "loop.example/g01027/laws.FnExactAreDemands", spec := "fnExactAreDemands", unfollowed := true, recurses := true, apart := false, narrowed := true }
def FnExactAreDemandsUptoSaid : Prop := fnExactAreDemandsUptoRow.holds Try.pinned (OpenSpec.upto fnExactAreDemandsSpec)

/-- 'laws.FnExactKeptBy', WHERE WHAT IT READS IS OF BULK AT MOST 1048576: true; the input reads as it did. -/
def fnExactKeptByUptoRow : OpenClaim := { program := "ytiglkddhcjlipaa", sum := "4c63f9846fff5c3b60e0a743f37a021bfb71820d541cef896912854ab377941b", func := "loop.example/g01027/laws.FnExactKeptBy", spec := "fnExactKeptBy", unfollowed := true, recurses := true, apart := false, narrowed := true }
def FnExactKeptByUptoSaid : Prop := fnExactKeptByUptoRow.holds Try.pinned (OpenSpec.upto fnExactKeptBySpec)

end Rows
end Go.Proofs.Ytiglkddhcjlipaa
