/-
  No cell of these rows narrows 'for every input' (looked for: loops, veiled, ifaces, maps, wideKeys, modest, calm, conditions, laid).
  DERIVED. THE GIVEN ROWS OF THIS SEAT. 8 by the template 'for every input the law returns true; each argument reads behind the call as it read before'; 0 by the template 'total and deterministic' (their statements: YtgcmpdfhdhlmgaaTotals.lean).
  GIVEN WITH THE SEED: the statements are not yours to turn. If you find one false, say at which input.
  Laid BY PROGRAM, IN A SANDBOX (cutbox-rows.mjs): the forced cells as the released guide's own fill.sh prints them over the translation 8e7cc6af8e8e1a79… (all of the seat's roots in one cut). By AI agents, Wed Nov 11 2026. No macro, syntax, notation, axiom, sorry.
-/
import Derived.Test.YtgcmpdfhdhlmgaaChecked
import GoSem.Claim
import GoSem.ClaimJoined
import GoSem.ClaimMapViews
import Derived.JoinedTies
import Derived.KernelRfl
namespace Go.Proofs.Ytgcmpdfhdhlmgaa
/- THE CELL 'sum', in the pinned program and in every row, IS THE sha256 OF THE DUMP (.gsa) THAT YtgcmpdfhdhlmgaaProg.lean LOADS. Nothing in Lean hashes anything: it is a label: what it is worth is what the hold of that sum in a sandbox is worth. -/
noncomputable def Try.pinned : Pinned := { name := "ytgcmpdfhdhlmgaa", sum := "8e7cc6af8e8e1a793836212c939717b225d22a1a16ed7fbc51abf2ca2125850c", checked := Try.checked }
namespace Rows
def none {H : Type} : Left H := { results := [], args := [] }

/-- 'laws.FnExactAreSlots': WHATEVER THE INPUT: true; the input reads as it did. -/
def fnExactAreSlotsSpec : ChangeSpec := { name := "fnExactAreSlots", fn := fun _ => fun
  | [d] => { results := [.lit (.bool true)], args := [d] }
  | _ => none }
def fnExactAreSlotsRow : OpenClaim := { program := "ytgcmpdfhdhlmgaa", sum := "8e7cc6af8e8e1a793836212c939717b225d22a1a16ed7fbc51abf2ca2125850c", func := "loop.example/g01027/laws.FnExactAreSlots", spec := "fnExactAreSlots", apart := false }
def FnExactAreSlotsSaid : Prop := fnExactAreSlotsRow.holds Try.pinned (OpenSpec.ofChange fnExactAreSlotsSpec)

/-- ITS FALSE NEIGHBOUR: 'it returns false'. Refute it at one input. -/
def fnExactAreSlotsWrong : ChangeSpec := { name := "fnExactAreSlots", fn := fun _ => fun
  | [d] => { results := [.lit (.bool false)], args := [d] }
  | _ => none }
def FnExactAreSlotsWrongFalsely : Prop := fnExactAreSlotsRow.holds Try.pinned (OpenSpec.ofChange fnExactAreSlotsWrong)

/-- 'laws.FnExactAreChoices': WHATEVER THE INPUT: true; the input reads as it did. -/
def fnExactAreChoicesSpec : ChangeSpec := { name := "fnExactAreChoices", fn := fun _ => fun
  | [d] => { results := [.lit (.bool true)], args := [d] }
  | _ => none }
def fnExactAreChoicesRow : OpenClaim := { program := "ytgcmpdfhdhlmgaa", sum := "8e7cc6af8e8e1a793836212c939717b225d22a1a16ed7fbc51abf2ca2125850c", func := "loop.example/g01027/laws.FnExactAreChoices", spec := "fnExactAreChoices", apart := false }
def FnExactAreChoicesSaid : Prop := fnExactAreChoicesRow.holds Try.pinned (OpenSpec.ofChange fnExactAreChoicesSpec)

/-- ITS FALSE NEIGHBOUR: 'it returns false'. Refute it at one input. -/
def fnExactAreChoicesWrong : ChangeSpec := { name := "fnExactAreChoices", fn := fun _ => fun
  | [d] => { results := [.lit (.bool false)], args := [d] }
  | _ => none }
def FnExactAreChoicesWrongFalsely : Prop := fnExactAreChoicesRow.holds Try.pinned (OpenSpec.ofChange fnExactAreChoicesWrong)

/-- 'laws.FnExactChanceOfAtMost': WHATEVER THE INPUT: true; the input reads as it did. -/
def fnExactChanceOfAtMostSpec : ChangeSpec := { name := "fnExactChanceOfAtMost", fn := fun _ => fun
  | [d1, d2, d3, d4] => { results := [.lit (.bool true)], args := [d1, d2, d3, d4] }
  | _ => none }
def fnExactChanceOfAtMostRow : OpenClaim := { program := "ytgcmpdfhdhlmgaa", sum := "8e7cc6af8e8e1a793836212c939717b225d22a1a16ed7fbc51abf2ca2125850c", func := "loop.example/g01027/laws.FnExactChanceOfAtMost", spec := "fnExactChanceOfAtMost", apart := false }
def FnExactChanceOfAtMostSaid : Prop := fnExactChanceOfAtMostRow.holds Try.pinned (OpenSpec.ofChange fnExactChanceOfAtMostSpec)

/-- ITS FALSE NEIGHBOUR: 'it returns false'. Refute it at one input. -/
def fnExactChanceOfAtMostWrong : ChangeSpec := { name := "fnExactChanceOfAtMost", fn := fun _ => fun
  | [d1, d2, d3, d4] => { results := [.lit (.bool false)], args := [d1, d2, d3, d4] }
  | _ => none }
def FnExactChanceOfAtMostWrongFalsely : Prop := fnExactChanceOfAtMostRow.holds Try.pinned (OpenSpec.ofChange fnExactChanceOfAtMostWrong)

/-- 'laws.FnExactChanceOfExactly': WHATEVER THE INPUT: true; the input reads as it did. -/
def fnExactChanceOfExactlySpec : ChangeSpec := { name := "fnExactChanceOfExactly", fn := fun _ => fun
  | [d1, d2, d3, d4] => { results := [.lit (.bool true)], args := [d1, d2, d3, d4] }
  | _ => none }
def fnExactChanceOfExactlyRow : OpenClaim := { program := "ytgcmpdfhdhlmgaa", sum := "8e7cc6af8e8e1a793836212c939717b225d22a1a16ed7fbc51abf2ca2125850c", func := "loop.example/g01027/laws.FnExactChanceOfExactly", spec := "fnExactChanceOfExactly", apart := false }
def FnExactChanceOfExactlySaid : Prop := fnExactChanceOfExactlyRow.holds Try.pinned (OpenSpec.ofChange fnExactChanceOfExactlySpec)

/-- ITS FALSE NEIGHBOUR: 'it returns false'. Refute it at one input. -/
def fnExactChanceOfExactlyWrong : ChangeSpec := { name := "fnExactChanceOfExactly", fn := fun _ => fun
  | [d1, d2, d3, d4] => { results := [.lit (.bool false)], args := [d1, d2, d3, d4] }
  | _ => none }
def FnExactChanceOfExactlyWrongFalsely : Prop := fnExactChanceOfExactlyRow.holds Try.pinned (OpenSpec.ofChange fnExactChanceOfExactlyWrong)

/-- 'laws.FnExactNormalRange': WHATEVER THE INPUT: true; the input reads as it did. -/
def fnExactNormalRangeSpec : ChangeSpec := { name := "fnExactNormalRange", fn := fun _ => fun
  | [d1, d2, d3, d4] => { results := [.lit (.bool true)], args := [d1, d2, d3, d4] }
  | _ => none }
def fnExactNormalRangeRow : OpenClaim := { program := "ytgcmpdfhdhlmgaa", sum := "8e7cc6af8e8e1a793836212c939717b225d22a1a16ed7fbc51abf2ca2125850c", func := "loop.example/g01027/laws.FnExactNormalRange", spec := "fnExactNormalRange", apart := false }
def FnExactNormalRangeSaid : Prop := fnExactNormalRangeRow.holds Try.pinned (OpenSpec.ofChange fnExactNormalRangeSpec)

/-- ITS FALSE NEIGHBOUR: 'it returns false'. Refute it at one input. -/
def fnExactNormalRangeWrong : ChangeSpec := { name := "fnExactNormalRange", fn := fun _ => fun
  | [d1, d2, d3, d4] => { results := [.lit (.bool false)], args := [d1, d2, d3, d4] }
  | _ => none }
def FnExactNormalRangeWrongFalsely : Prop := fnExactNormalRangeRow.holds Try.pinned (OpenSpec.ofChange fnExactNormalRangeWrong)

/-- 'laws.FnExactAreStages': WHATEVER THE INPUT: true; the input reads as it did. -/
def fnExactAreStagesSpec : ChangeSpec := { name := "fnExactAreStages", fn := fun _ => fun
  | [d] => { results := [.lit (.bool true)], args := [d] }
  | _ => none }
def fnExactAreStagesRow : OpenClaim := { program := "ytgcmpdfhdhlmgaa", sum := "8e7cc6af8e8e1a793836212c939717b225d22a1a16ed7fbc51abf2ca2125850c", func := "loop.example/g01027/laws.FnExactAreStages", spec := "fnExactAreStages", unfollowed := true, recurses := true, apart := false }
def FnExactAreStagesSaid : Prop := fnExactAreStagesRow.holds Try.pinned (OpenSpec.ofChange fnExactAreStagesSpec)

/-- ITS FALSE NEIGHBOUR: 'it returns false'. Refute it at one input. -/
def fnExactAreStagesWrong : ChangeSpec := { name := "fnExactAreStages", fn := fun _ => fun
  | [d] => { results := [.lit (.bool false)], args := [d] }
  | _ => none }
def FnExactAreStagesWrongFalsely : Prop := fnExactAreStagesRow.holds Try.pinned (OpenSpec.ofChange fnExactAreStagesWrong)

/-- 'laws.FnChancesOfNumbers': WHATEVER THE INPUT: true; the input reads as it did. -/
def fnChancesOfNumbersSpec : ChangeSpec := { name := "fnChancesOfNumbers", fn := fun _ => fun
  | [d] => { results := [.lit (.bool true)], args := [d] }
  | _ => none }
def fnChancesOfNumbersRow : OpenClaim := { program := "ytgcmpdfhdhlmgaa", sum := "8e7cc6af8e8e1a793836212c939717b225d22a1a16ed7fbc51abf2ca2125850c", func := "loop.example/g01027/laws.FnChancesOfNumbers", spec := "fnChancesOfNumbers", apart := false }
def FnChancesOfNumbersSaid : Prop := fnChancesOfNumbersRow.holds Try.pinned (OpenSpec.ofChange fnChancesOfNumbersSpec)

/-- ITS FALSE NEIGHBOUR: 'it returns false'. Refute it at one input. -/
def fnChancesOfNumbersWrong : ChangeSpec := { name := "fnChancesOfNumbers", fn := fun _ => fun
  | [d] => { results := [.lit (.bool false)], args := [d] }
  | _ => none }
def FnChancesOfNumbersWrongFalsely : Prop := fnChancesOfNumbersRow.holds Try.pinned (OpenSpec.ofChange fnChancesOfNumbersWrong)

/-- 'laws.FnAudits': WHATEVER THE INPUT: true; the input reads as it did. -/
def fnAuditsSpec : ChangeSpec := { name := "fnAudits", fn := fun _ => fun
  | [d] => { results := [.lit (.bool true)], args := [d] }
  | _ => none }
def fnAuditsRow : OpenClaim := { program := "ytgcmpdfhdhlmgaa", sum := "8e7cc6af8e8e1a793836212c939717b225d22a1a16ed7fbc51abf2ca2125850c", func := "loop.example/g01027/laws.FnAudits", spec := "fnAudits", apart := false }
def FnAuditsSaid : Prop := fnAuditsRow.holds Try.pinned (OpenSpec.ofChange fnAuditsSpec)

/-- ITS FALSE NEIGHBOUR: 'it returns false'. Refute it at one input. -/
def fnAuditsWrong : ChangeSpec := { name := "fnAudits", fn := fun _ => fun
  | [d] => { results := [.lit (.bool false)], args := [d] }
  | _ => none }
def FnAuditsWrongFalsely : Prop := fnAuditsRow.holds Try.pinned (OpenSpec.ofChange fnAuditsWrong)

/- THE SECOND FORM. 'bulk': how many values and letters a reading holds, each counted each time it is reached (what is shared counts as often as it is met; a slice's spare places count too). A statement '..UptoSaid' is the law's where the arguments, and the package variables that the reading takes, are together of bulk at most 1048576: NARROWER than '..Said'. Prove '..Said' where nothing that the law and all that it calls make is longer than what came in: it says more and counts as full. Else prove '..UptoSaid'. A law counts once. -/
mutual
def uptoBulk {H : Type} : DataW H → Nat
  | .lit (.string bytes) => bytes.length + 1
  | .lit _ => 1
  | .nil => 1
  | .ptr d => uptoBulk d + 1
  | .slice elems spare => uptoBulkAll elems + uptoBulkAll spare + 1
  | .agg parts => uptoBulkAll parts + 1
  | .iface _ d => uptoBulk d + 1
  | .map entries => uptoBulkEntries entries + 1
  | .held _ => 1
def uptoBulkAll {H : Type} : List (DataW H) → Nat
  | [] => 0
  | d :: r => uptoBulk d + uptoBulkAll r
def uptoBulkEntries {H : Type} : List (Lit × DataW H) → Nat
  | [] => 0
  | x :: r => uptoBulkEntry x + uptoBulkEntries r
def uptoBulkEntry {H : Type} : Lit × DataW H → Nat
  | (.string bytes, d) => bytes.length + uptoBulk d + 1
  | (_, d) => uptoBulk d + 1
 end
def uptoSmall : (H : Type) → List (DataW H) → Bool := fun _ ds => decide (uptoBulkAll ds ≤ 1048576)
def OpenSpec.upto (s : _root_.Go.ChangeSpec) : _root_.Go.OpenSpec := { _root_.Go.OpenSpec.ofChange s with cond := some uptoSmall }

/-- 'laws.FnExactAreSlots', WHERE WHAT IT READS IS OF BULK AT MOST 1048576: true; the input reads as it did. -/
def fnExactAreSlotsUptoRow : OpenClaim := { program := "ytgcmpdfhdhlmgaa", sum := "8e7cc6af8e8e1a793836212c939717b225d22a1a16ed7fbc51abf2ca2125850c", func := "loop.example/g01027/laws.FnExactAreSlots", spec := "fnExactAreSlots", apart := false, narrowed := true }
def FnExactAreSlotsUptoSaid : Prop := fnExactAreSlotsUptoRow.holds Try.pinned (OpenSpec.upto fnExactAreSlotsSpec)

/-- 'laws.FnExactAreChoices', WHERE WHAT IT READS IS OF BULK AT MOST 1048576: true; the input reads as it did. -/
def fnExactAreChoicesUptoRow : OpenClaim := { program := "ytgcmpdfhdhlmgaa", sum := "8e7cc6af8e8e1a793836212c939717b225d22a1a16ed7fbc51abf2ca2125850c", func := "loop.example/g01027/laws.FnExactAreChoices", spec := "fnExactAreChoices", apart := false, narrowed := true }
def FnExactAreChoicesUptoSaid : Prop := fnExactAreChoicesUptoRow.holds Try.pinned (OpenSpec.upto fnExactAreChoicesSpec)

/-- 'laws.FnExactChanceOfAtMost', WHERE WHAT IT READS IS OF BULK AT MOST 1048576: true; the input reads as it did. -/
def fnExactChanceOfAtMostUptoRow : OpenClaim := { program := "ytgcmpdfhdhlmgaa", sum := "8e7cc6af8e8e1a793836212c939717b225d22a1a16ed7fbc51abf2ca2125850c", func := "loop.example/g01027/laws.FnExactChanceOfAtMost", spec := "fnExactChanceOfAtMost", apart := false, narrowed := true }
def FnExactChanceOfAtMostUptoSaid : Prop := fnExactChanceOfAtMostUptoRow.holds Try.pinned (OpenSpec.upto fnExactChanceOfAtMostSpec)

/-- 'laws.FnExactChanceOfExactly', WHERE WHAT IT READS IS OF BULK AT MOST 1048576: true; the input reads as it did. -/
def fnExactChanceOfExactlyUptoRow : OpenClaim := { program := "ytgcmpdfhdhlmgaa", sum := "8e7cc6af8e8e1a793836212c939717b225d22a1a16ed7fbc51abf2ca2125850c", func := "loop.example/g01027/laws.FnExactChanceOfExactly", spec := "fnExactChanceOfExactly", apart := false, narrowed := true }
def FnExactChanceOfExactlyUptoSaid : Prop := fnExactChanceOfExactlyUptoRow.holds Try.pinned (OpenSpec.upto fnExactChanceOfExactlySpec)

/-- 'laws.FnExactNormalRange', WHERE WHAT IT READS IS OF BULK AT MOST 1048576: true; the input reads as it did. -/
def fnExactNormalRangeUptoRow : OpenClaim := { program := "ytgcmpdfhdhlmgaa", sum := "8e7cc6af8e8e1a793836212c939717b225d22a1a16ed7fbc51abf2ca2125850c", func := "loop.example/g01027/laws.FnExactNormalRange", spec := "fnExactNormalRange", apart := false, narrowed := true }
def FnExactNormalRangeUptoSaid : Prop := fnExactNormalRangeUptoRow.holds Try.pinned (OpenSpec.upto fnExactNormalRangeSpec)

/-- 'laws.FnExactAreStages', WHERE WHAT IT READS IS OF BULK AT MOST 1048576: true; the input reads as it did. -/
def fnExactAreStagesUptoRow : OpenClaim := { program := "ytgcmpdfhdhlmgaa", sum := "8e7cc6af8e8e1a793836212c939717b225d22a1a16ed7fbc51abf2ca2125850c", func := "loop.example/g01027/laws.FnExactAreStages", spec := "fnExactAreStages", unfollowed := true, recurses := true, apart := false, narrowed := true }
def FnExactAreStagesUptoSaid : Prop := fnExactAreStagesUptoRow.holds Try.pinned (OpenSpec.upto fnExactAreStagesSpec)

/-- 'laws.FnChancesOfNumbers', WHERE WHAT IT READS IS OF BULK AT MOST 1048576: true; the input reads as it did. -/
def fnChancesOfNumbersUptoRow : OpenClaim := { program := "ytgcmpdfhdhlmgaa", sum := "8e7cc6af8e8e1a793836212c939717b225d22a1a16ed7fbc51abf2ca2125850c", func := "loop.example/g01027/laws.FnChancesOfNumbers", spec := "fnChancesOfNumbers", apart := false, narrowed := true }
def FnChancesOfNumbersUptoSaid : Prop := fnChancesOfNumbersUptoRow.holds Try.pinned (OpenSpec.upto fnChancesOfNumbersSpec)

/-- 'laws.FnAudits', WHERE WHAT IT READS IS OF BULK AT MOST 1048576: true; the input reads as it did. -/
def fnAuditsUptoRow : OpenClaim := { program := "ytgcmpdfhdhlmgaa", sum := "8e7cc6af8e8e1a793836212c939717b225d22a1a16ed7fbc51abf2ca2125850c", func := "loop.example/g01027/laws.FnAudits", spec := "fnAudits", apart := false, narrowed := true }
def FnAuditsUptoSaid : Prop := fnAuditsUptoRow.holds Try.pinned (OpenSpec.upto fnAuditsSpec)

end Rows
end Go.Proofs.Ytgcmpdfhdhlmgaa
