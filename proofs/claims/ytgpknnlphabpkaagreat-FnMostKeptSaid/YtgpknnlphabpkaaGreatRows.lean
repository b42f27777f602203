/-
  No cell of these rows narrows 'for every input' (looked for: loops, veiled, ifaces, maps, wideKeys, modest, calm, conditions, laid).
  DERIVED. THE GIVEN ROWS OF THIS SEAT. 8 by the template 'for every input the law returns true; each argument reads behind the call as it read before'; 0 by the template 'total and deterministic' (their statements: YtgpknnlphabpkaaGreatTotals.lean).
  GIVEN WITH THE SEED: the statements are not yours to turn. If you find one false, say at which input.
  Laid BY PROGRAM, IN A SANDBOX (cutbox-rows.mjs): the forced cells as the released guide's own fill.sh prints them over the translation 39d2fc240041691c… (all of the seat's roots in one cut). By AI agents, Wed Nov 11 2026. No macro, syntax, notation, axiom, sorry.
-/
import Derived.Test.YtgpknnlphabpkaaGreatChecked
import GoSem.Claim
import GoSem.ClaimJoined
import GoSem.ClaimMapViews
import Derived.JoinedTies
import Derived.KernelRfl
namespace Go.Proofs.YtgpknnlphabpkaaGreat
/- THE CELL 'sum', in the pinned program and in every row, IS THE sha256 OF THE DUMP (.gsa) THAT YtgpknnlphabpkaaGreatProg.lean LOADS. Nothing in Lean hashes anything: it is a label: what it is worth is what the hold of that sum in a sandbox is worth. -/
noncomputable def Tryz.pinned : Pinned := { name := "ytgpknnlphabpkaagreat", sum := "39d2fc240041691cf29a6de06f4d04a7f29471ca77cf247457e5eed2dca68ef6", checked := Tryz.checked }
namespace Rows
def none {H : Type} : Left H := { results := [], args := [] }

/-- 'laws.FnMostKept': WHATEVER THE INPUT: true; the input reads as it did. -/
def fnMostKeptSpec : ChangeSpec := { name := "fnMostKept", fn := fun _ => fun
  | [d] => { results := [.lit (.bool true)], args := [d] }
  | _ => none }
def fnMostKeptRow : OpenClaim := { program := "ytgpknnlphabpkaagreat", sum := "39d2fc240041691cf29a6de06f4d04a7f29471ca77cf247457e5eed2dca68ef6", func := "loop.example/g01027/laws.FnMostKept", spec := "fnMostKept", unfollowed := true, recurses := true, apart := false }
def FnMostKeptSaid : Prop := fnMostKeptRow.holds Tryz.pinned (OpenSpec.ofChange fnMostKeptSpec)

/-- ITS FALSE NEIGHBOUR: 'it returns false'. Refute it at one input. -/
def fnMostKeptWrong : ChangeSpec := { name := "fnMostKept", fn := fun _ => fun
  | [d] => { results := [.lit (.bool false)], args := [d] }
  | _ => none }
def FnMostKeptWrongFalsely : Prop := fnMostKeptRow.holds Tryz.pinned (OpenSpec.ofChange fnMostKeptWrong)

/-- 'laws.FnExactSmallestConflict': WHATEVER THE INPUT: true; the input reads as it did. -/
def fnExactSmallestConflictSpec : ChangeSpec := { name := "fnExactSmallestConflict", fn := fun _ => fun
  | [d1, d2, d3] => { results := [.lit (.bool true)], args := [d1, d2, d3] }
  | _ => none }
def fnExactSmallestConflictRow : OpenClaim := { program := "ytgpknnlphabpkaagreat", sum := "39d2fc240041691cf29a6de06f4d04a7f29471ca77cf247457e5eed2dca68ef6", func := "loop.example/g01027/laws.FnExactSmallestConflict", spec := "fnExactSmallestConflict", unfollowed := true, recurses := true, apart := false }
def FnExactSmallestConflictSaid : Prop := fnExactSmallestConflictRow.holds Tryz.pinned (OpenSpec.ofChange fnExactSmallestConflictSpec)

/-- ITS FALSE NEIGHBOUR: 'it returns false'. Refute it at one input. -/
def fnExactSmallestConflictWrong : ChangeSpec := { name := "fnExactSmallestConflict", fn := fun _ => fun
  | [d1, d2, d3] => { results := [.lit (.bool false)], args := [d1, d2, d3] }
  | _ => none }
def FnExactSmallestConflictWrongFalsely : Prop := fnExactSmallestConflictRow.holds Tryz.pinned (OpenSpec.ofChange fnExactSmallestConflictWrong)

/-- 'laws.FnConflicts': WHATEVER THE INPUT: true; the input reads as it did. -/
def fnConflictsSpec : ChangeSpec := { name := "fnConflicts", fn := fun _ => fun
  | [d] => { results := [.lit (.bool true)], args := [d] }
  | _ => none }
def fnConflictsRow : OpenClaim := { program := "ytgpknnlphabpkaagreat", sum := "39d2fc240041691cf29a6de06f4d04a7f29471ca77cf247457e5eed2dca68ef6", func := "loop.example/g01027/laws.FnConflicts", spec := "fnConflicts", unfollowed := true, recurses := true, apart := false }
def FnConflictsSaid : Prop := fnConflictsRow.holds Tryz.pinned (OpenSpec.ofChange fnConflictsSpec)

/-- ITS FALSE NEIGHBOUR: 'it returns false'. Refute it at one input. -/
def fnConflictsWrong : ChangeSpec := { name := "fnConflicts", fn := fun _ => fun
  | [d] => { results := [.lit (.bool false)], args := [d] }
  | _ => none }
def FnConflictsWrongFalsely : Prop := fnConflictsRow.holds Tryz.pinned (OpenSpec.ofChange fnConflictsWrong)

/-- 'laws.FnExactDoContradict': WHATEVER THE INPUT: true; the input reads as it did. -/
def fnExactDoContradictSpec : ChangeSpec := { name := "fnExactDoContradict", fn := fun _ => fun
  | [d1, d2, d3, d4] => { results := [.lit (.bool true)], args := [d1, d2, d3, d4] }
  | _ => none }
def fnExactDoContradictRow : OpenClaim := { program := "ytgpknnlphabpkaagreat", sum := "39d2fc240041691cf29a6de06f4d04a7f29471ca77cf247457e5eed2dca68ef6", func := "loop.example/g01027/laws.FnExactDoContradict", spec := "fnExactDoContradict", unfollowed := true, recurses := true, apart := false }
def FnExactDoContradictSaid : Prop := fnExactDoContradictRow.holds Tryz.pinned (OpenSpec.ofChange fnExactDoContradictSpec)

/-- ITS FALSE NEIGHBOUR: 'it returns false'. Refute it at one input. -/
def fnExactDoContradictWrong : ChangeSpec := { name := "fnExactDoContradict", fn := fun _ => fun
  | [d1, d2, d3, d4] => { results := [.lit (.bool false)], args := [d1, d2, d3, d4] }
  | _ => none }
def FnExactDoContradictWrongFalsely : Prop := fnExactDoContradictRow.holds Tryz.pinned (OpenSpec.ofChange fnExactDoContradictWrong)

/-- 'laws.FnExactBestKeeping': WHATEVER THE INPUT: true; the input reads as it did. -/
def fnExactBestKeepingSpec : ChangeSpec := { name := "fnExactBestKeeping", fn := fun _ => fun
  | [d1, d2, d3] => { results := [.lit (.bool true)], args := [d1, d2, d3] }
  | _ => none }
def fnExactBestKeepingRow : OpenClaim := { program := "ytgpknnlphabpkaagreat", sum := "39d2fc240041691cf29a6de06f4d04a7f29471ca77cf247457e5eed2dca68ef6", func := "loop.example/g01027/laws.FnExactBestKeeping", spec := "fnExactBestKeeping", unfollowed := true, recurses := true, apart := false }
def FnExactBestKeepingSaid : Prop := fnExactBestKeepingRow.holds Tryz.pinned (OpenSpec.ofChange fnExactBestKeepingSpec)

/-- ITS FALSE NEIGHBOUR: 'it returns false'. Refute it at one input. -/
def fnExactBestKeepingWrong : ChangeSpec := { name := "fnExactBestKeeping", fn := fun _ => fun
  | [d1, d2, d3] => { results := [.lit (.bool false)], args := [d1, d2, d3] }
  | _ => none }
def FnExactBestKeepingWrongFalsely : Prop := fnExactBestKeepingRow.holds Tryz.pinned (OpenSpec.ofChange fnExactBestKeepingWrong)

/-- 'laws.FnExactIsConflict': WHATEVER THE INPUT: true; the input reads as it did. -/
def fnExactIsConflictSpec : ChangeSpec := { name := "fnExactIsConflict", fn := fun _ => fun
  | [d1, d2, d3, d4] => { results := [.lit (.bool true)], args := [d1, d2, d3, d4] }
  | _ => none }
def fnExactIsConflictRow : OpenClaim := { program := "ytgpknnlphabpkaagreat", sum := "39d2fc240041691cf29a6de06f4d04a7f29471ca77cf247457e5eed2dca68ef6", func := "loop.example/g01027/laws.FnExactIsConflict", spec := "fnExactIsConflict", unfollowed := true, recurses := true, apart := false }
def FnExactIsConflictSaid : Prop := fnExactIsConflictRow.holds Tryz.pinned (OpenSpec.ofChange fnExactIsConflictSpec)

/-- ITS FALSE NEIGHBOUR: 'it returns false'. Refute it at one input. -/
def fnExactIsConflictWrong : ChangeSpec := { name := "fnExactIsConflict", fn := fun _ => fun
  | [d1, d2, d3, d4] => { results := [.lit (.bool false)], args := [d1, d2, d3, d4] }
  | _ => none }
def FnExactIsConflictWrongFalsely : Prop := fnExactIsConflictRow.holds Tryz.pinned (OpenSpec.ofChange fnExactIsConflictWrong)

/-- 'laws.FnExactMostKept': WHATEVER THE INPUT: true; the input reads as it did. -/
def fnExactMostKeptSpec : ChangeSpec := { name := "fnExactMostKept", fn := fun _ => fun
  | [d1, d2, d3] => { results := [.lit (.bool true)], args := [d1, d2, d3] }
  | _ => none }
def fnExactMostKeptRow : OpenClaim := { program := "ytgpknnlphabpkaagreat", sum := "39d2fc240041691cf29a6de06f4d04a7f29471ca77cf247457e5eed2dca68ef6", func := "loop.example/g01027/laws.FnExactMostKept", spec := "fnExactMostKept", unfollowed := true, recurses := true, apart := false }
def FnExactMostKeptSaid : Prop := fnExactMostKeptRow.holds Tryz.pinned (OpenSpec.ofChange fnExactMostKeptSpec)

/-- ITS FALSE NEIGHBOUR: 'it returns false'. Refute it at one input. -/
def fnExactMostKeptWrong : ChangeSpec := { name := "fnExactMostKept", fn := fun _ => fun
  | [d1, d2, d3] => { results := [.lit (.bool false)], args := [d1, d2, d3] }
  | _ => none }
def FnExactMostKeptWrongFalsely : Prop := fnExactMostKeptRow.holds Tryz.pinned (OpenSpec.ofChange fnExactMostKeptWrong)

/-- 'laws.FnExactFreeDemands': WHATEVER THE INPUT: true; the input reads as it did. -/
def fnExactFreeDemandsSpec : ChangeSpec := { name := "fnExactFreeDemands", fn := fun _ => fun
  | [d1, d2, d3] => { results := [.lit (.bool true)], args := [d1, d2, d3] }
  | _ => none }
def fnExactFreeDemandsRow : OpenClaim := { program := "ytgpknnlphabpkaagreat", sum := "39d2fc240041691cf29a6de06f4d04a7f29471ca77cf247457e5eed2dca68ef6", func := "loop.example/g01027/laws.FnExactFreeDemands", spec := "fnExactFreeDemands", unfollowed := true, recurses := true, apart := false }
def FnExactFreeDemandsSaid : Prop := fnExactFreeDemandsRow.holds Tryz.pinned (OpenSpec.ofChange fnExactFreeDemandsSpec)

/-- ITS FALSE NEIGHBOUR: 'it returns false'. Refute it at one input. -/
def fnExactFreeDemandsWrong : ChangeSpec := { name := "fnExactFreeDemands", fn := fun _ => fun
  | [d1, d2, d3] => { results := [.lit (.bool false)], args := [d1, d2, d3] }
  | _ => none }
def FnExactFreeDemandsWrongFalsely : Prop := fnExactFreeDemandsRow.holds Tryz.pinned (OpenSpec.ofChange fnExactFreeDemandsWrong)

/- THE SECOND FORM. 'bulk': how many values and letters a reading holds, each counted each time it is reached (what is shared counts as often as it is met; a slice's spare places count too). A statement '..UptoSaid' is the law's where the arguments, and the package variables that the reading takes, are together of bulk at most 1048576: NARROWER than '..Said'. Prove '..Said' where nothing that the law and all that it calls make is longer than what came in: it says more and counts as full. Else prove '..UptoSaid'. A law counts once. -/
mutual
def uptoBulk {H : Type} : DataW H → Nat
  | .lit (.string bytes) => bytes.length + 1
  | .lit _ => 1
  | .nil => 1
  | .ptr d => uptoBulk d + 1
  | .slice elems spare => uptoBulkAll elems + uptoBulkAll spare + 1
  | .agg parts => uptoBulkAll parts + 1
  | .iface _ d => uptoBulk d + 1
  | .map entries => uptoBulkEntries entries + 1
  | .held _ => 1
def uptoBulkAll {H : Type} : List (DataW H) → Nat
  | [] => 0
  | d :: r => uptoBulk d + uptoBulkAll r
def uptoBulkEntries {H : Type} : List (Lit × DataW H) → Nat
  | [] => 0
  | x :: r => uptoBulkEntry x + uptoBulkEntries r
def uptoBulkEntry {H : Type} : Lit × DataW H → Nat
  | (.string bytes, d) => bytes.length + uptoBulk d + 1
  | (_, d) => uptoBulk d + 1
 end
def uptoSmall : (H : Type) → List (DataW H) → Bool := fun _ ds => decide (uptoBulkAll ds ≤ 1048576)
def OpenSpec.upto (s : _root_.Go.ChangeSpec) : _root_.Go.OpenSpec := { _root_.Go.OpenSpec.ofChange s with cond := some uptoSmall }

/-- 'laws.FnMostKept', WHERE WHAT IT READS IS OF BULK AT MOST 1048576: true; the input reads as it did. -/
def fnMostKeptUptoRow : OpenClaim := { program := "ytgpknnlphabpkaagreat", sum := "39d2fc240041691cf29a6de06f4d04a7f29471ca77cf247457e5eed2dca68ef6", func := "loop.example/g01027/laws.FnMostKept", spec := "fnMostKept", unfollowed := true, recurses := true, apart := false, narrowed := true }
def FnMostKeptUptoSaid : Prop := fnMostKeptUptoRow.holds Tryz.pinned (OpenSpec.upto fnMostKeptSpec)

/-- 'laws.FnExactSmallestConflict', WHERE WHAT IT READS IS OF BULK AT MOST 1048576: true; the input reads as it did. -/
def fnExactSmallestConflictUptoRow : OpenClaim := { program := "ytgpknnlphabpkaagreat", sum := "39d2fc240041691cf29a6de06f4d04a7f29471ca77cf247457e5eed2dca68ef6", func := "loop.example/g01027/laws.FnExactSmallestConflict", spec := "fnExactSmallestConflict", unfollowed := true, recurses := true, apart := false, narrowed := true }
def FnExactSmallestConflictUptoSaid : Prop := fnExactSmallestConflictUptoRow.holds Tryz.pinned (OpenSpec.upto fnExactSmallestConflictSpec)

/-- 'laws.FnConflicts', WHERE WHAT IT READS IS OF BULK AT MOST 1048576: true; the input reads as it did. -/
def fnConflictsUptoRow : OpenClaim := { program := "ytgpknnlphabpkaagreat", sum := "39d2fc240041691cf29a6de06f4d04a7f29471ca77cf247457e5eed2dca68ef6", func := "loop.example/g01027/laws.FnConflicts", spec := "fnConflicts", unfollowed := true, recurses := true, apart := false, narrowed := true }
def FnConflictsUptoSaid : Prop := fnConflictsUptoRow.holds Tryz.pinned (OpenSpec.upto fnConflictsSpec)

/-- 'laws.FnExactDoContradict', WHERE WHAT IT READS IS OF BULK AT MOST 1048576: true; the input reads as it did. -/
def fnExactDoContradictUptoRow : OpenClaim := { program := "ytgpknnlphabpkaagreat", sum := "39d2fc240041691cf29a6de06f4d04a7f29471ca77cf247457e5eed2dca68ef6", func := "loop.example/g01027/laws.FnExactDoContradict", spec := "fnExactDoContradict", unfollowed := true, recurses := true, apart := false, narrowed := true }
def FnExactDoContradictUptoSaid : Prop := fnExactDoContradictUptoRow.holds Tryz.pinned (OpenSpec.upto fnExactDoContradictSpec)

/-- 'laws.FnExactBestKeeping', WHERE WHAT IT READS IS OF BULK AT MOST 1048576: true; the input reads as it did. -/
def fnExactBestKeepingUptoRow : OpenClaim := { program := "ytgpknnlphabpkaagreat", sum := "39d2fc240041691cf29a6de06f4d04a7f29471ca77cf247457e5eed2dca68ef6", func := "loop.example/g01027/laws.FnExactBestKeeping", spec := "fnExactBestKeeping", unfollowed := true, recurses := true, apart := false, narrowed := true }
def FnExactBestKeepingUptoSaid : Prop := fnExactBestKeepingUptoRow.holds Tryz.pinned (OpenSpec.upto fnExactBestKeepingSpec)

/-- 'laws.FnExactIsConflict', WHERE WHAT IT READS IS OF BULK AT MOST 1048576: true; the input reads as it did. -/
def fnExactIsConflictUptoRow : OpenClaim := { program := "ytgpknnlphabpkaagreat", sum := "39d2fc240041691cf29a6de06f4d04a7f29471ca77cf247457e5eed2dca68ef6", func := "loop.example/g01027/laws.FnExactIsConflict", spec := "fnExactIsConflict", unfollowed := true, recurses := true, apart := false, narrowed := true }
def FnExactIsConflictUptoSaid : Prop := fnExactIsConflictUptoRow.holds Tryz.pinned (OpenSpec.upto fnExactIsConflictSpec)

/-- 'laws.FnExactMostKept', WHERE WHAT IT READS IS OF BULK AT MOST 1048576: true; the input reads as it did. -/
def fnExactMostKeptUptoRow : OpenClaim := { program := "ytgpknnlphabpkaagreat", sum := "39d2fc240041691cf29a6de06f4d04a7f29471ca77cf247457e5eed2dca68ef6", func := "loop.example/g01027/laws.FnExactMostKept", spec := "fnExactMostKept", unfollowed := true, recurses := true, apart := false, narrowed := true }
def FnExactMostKeptUptoSaid : Prop := fnExactMostKeptUptoRow.holds Tryz.pinned (OpenSpec.upto fnExactMostKeptSpec)

/-- 'laws.FnExactFreeDemands', WHERE WHAT IT READS IS OF BULK AT MOST 1048576: true; the input reads as it did. -/
def fnExactFreeDemandsUptoRow : OpenClaim := { program := "ytgpknnlphabpkaagreat", sum := "39d2fc240041691cf29a6de06f4d04a7f29471ca77cf247457e5eed2dca68ef6", func := "loop.example/g01027/laws.FnExactFreeDemands", spec := "fnExactFreeDemands", unfollowed := true, recurses := true, apart := false, narrowed := true }
def FnExactFreeDemandsUptoSaid : Prop := fnExactFreeDemandsUptoRow.holds Tryz.pinned (OpenSpec.upto fnExactFreeDemandsSpec)

end Rows
end Go.Proofs.YtgpknnlphabpkaaGreat
