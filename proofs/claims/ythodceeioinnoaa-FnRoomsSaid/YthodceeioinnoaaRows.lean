/-
  No cell of these rows narrows 'for every input' (looked for: loops, veiled, ifaces, maps, wideKeys, modest, calm, conditions, laid).
  DERIVED. THE GIVEN ROWS OF THIS SEAT. 12 by the template 'for every input the law returns true; each argument reads behind the call as it read before'; 0 by the template 'total and deterministic' (their statements: YthodceeioinnoaaTotals.lean).
  GIVEN WITH THE SEED: the statements are not yours to turn. If you find one false, say at which input.
  Laid BY PROGRAM, IN A SANDBOX (cutbox-rows.mjs): the forced cells as the released guide's own fill.sh prints them over the translation 583c40b79f0cecde… (all of the seat's roots in one cut). By AI agents, Wed Nov 11 2026. No macro, syntax, notation, axiom, sorry.
-/
import Derived.Test.YthodceeioinnoaaChecked
import GoSem.Claim
import GoSem.ClaimJoined
import GoSem.ClaimMapViews
import Derived.JoinedTies
import Derived.KernelRfl
namespace Go.Proofs.Ythodceeioinnoaa
/- THE CELL 'sum', in the pinned program and in every row, IS THE sha256 OF THE DUMP (.gsa) THAT YthodceeioinnoaaProg.lean LOADS. Nothing in Lean hashes anything: it is a label: what it is worth is what the hold of that sum in a sandbox is worth. -/
noncomputable def Try.pinned : Pinned := { name := "ythodceeioinnoaa", sum := "583c40b79f0cecdebe0420dd5ddf4a5b925083437cb5fc7dc64130eb948e4f2b", checked := Try.checked }
namespace Rows
def none {H : Type} : Left H := { results := [], args := [] }

/-- 'laws.FnExactAreBookings': WHATEVER THE INPUT: true; the input reads as it did. -/
def fnExactAreBookingsSpec : ChangeSpec := { name := "fnExactAreBookings", fn := fun _ => fun
  | [d] => { results := [.lit (.bool true)], args := [d] }
  | _ => none }
def fnExactAreBookingsRow : OpenClaim := { program := "ythodceeioinnoaa", sum := "583c40b79f0cecdebe0420dd5ddf4a5b925083437cb5fc7dc64130eb948e4f2b", func := "loop.example/g01027/laws.FnExactAreBookings", spec := "fnExactAreBookings", apart := false }
def FnExactAreBookingsSaid : Prop := fnExactAreBookingsRow.holds Try.pinned (OpenSpec.ofChange fnExactAreBookingsSpec)

/-- ITS FALSE NEIGHBOUR: 'it returns false'. Refute it at one input. -/
def fnExactAreBookingsWrong : ChangeSpec := { name := "fnExactAreBookings", fn := fun _ => fun
  | [d] => { results := [.lit (.bool false)], args := [d] }
  | _ => none }
def FnExactAreBookingsWrongFalsely : Prop := fnExactAreBookingsRow.holds Try.pinned (OpenSpec.ofChange fnExactAreBookingsWrong)

/-- 'laws.FnExactQuartersKept': WHATEVER THE INPUT: true; the input reads as it did. -/
def fnExactQuartersKeptSpec : ChangeSpec := { name := "fnExactQuartersKept", fn := fun _ => fun
  | [d1, d2, d3] => { results := [.lit (.bool true)], args := [d1, d2, d3] }
  | _ => none }
def fnExactQuartersKeptRow : OpenClaim := { program := "ythodceeioinnoaa", sum := "583c40b79f0cecdebe0420dd5ddf4a5b925083437cb5fc7dc64130eb948e4f2b", func := "loop.example/g01027/laws.FnExactQuartersKept", spec := "fnExactQuartersKept", apart := false }
def FnExactQuartersKeptSaid : Prop := fnExactQuartersKeptRow.holds Try.pinned (OpenSpec.ofChange fnExactQuartersKeptSpec)

/-- ITS FALSE NEIGHBOUR: 'it returns false'. Refute it at one input. -/
def fnExactQuartersKeptWrong : ChangeSpec := { name := "fnExactQuartersKept", fn := fun _ => fun
  | [d1, d2, d3] => { results := [.lit (.bool false)], args := [d1, d2, d3] }
  | _ => none }
def FnExactQuartersKeptWrongFalsely : Prop := fnExactQuartersKeptRow.holds Try.pinned (OpenSpec.ofChange fnExactQuartersKeptWrong)

/-- 'laws.FnExactFirstFree': WHATEVER THE INPUT: true; the input reads as it did. -/
def fnExactFirstFreeSpec : ChangeSpec := { name := "fnExactFirstFree", fn := fun _ => fun
  | [d1, d2, d3, d4] => { results := [.lit (.bool true)], args := [d1, d2, d3, d4] }
  | _ => none }
def fnExactFirstFreeRow : OpenClaim := { program := "ythodceeioinnoaa", sum := "583c40b79f0cecdebe0420dd5ddf4a5b925083437cb5fc7dc64130eb948e4f2b", func := "loop.example/g01027/laws.FnExactFirstFree", spec := "fnExactFirstFree", apart := false }
def FnExactFirstFreeSaid : Prop := fnExactFirstFreeRow.holds Try.pinned (OpenSpec.ofChange fnExactFirstFreeSpec)

/-- ITS FALSE NEIGHBOUR: 'it returns false'. Refute it at one input. -/
def fnExactFirstFreeWrong : ChangeSpec := { name := "fnExactFirstFree", fn := fun _ => fun
  | [d1, d2, d3, d4] => { results := [.lit (.bool false)], args := [d1, d2, d3, d4] }
  | _ => none }
def FnExactFirstFreeWrongFalsely : Prop := fnExactFirstFreeRow.holds Try.pinned (OpenSpec.ofChange fnExactFirstFreeWrong)

/-- 'laws.FnExactLongestGap': WHATEVER THE INPUT: true; the input reads as it did. -/
def fnExactLongestGapSpec : ChangeSpec := { name := "fnExactLongestGap", fn := fun _ => fun
  | [d1, d2, d3] => { results := [.lit (.bool true)], args := [d1, d2, d3] }
  | _ => none }
def fnExactLongestGapRow : OpenClaim := { program := "ythodceeioinnoaa", sum := "583c40b79f0cecdebe0420dd5ddf4a5b925083437cb5fc7dc64130eb948e4f2b", func := "loop.example/g01027/laws.FnExactLongestGap", spec := "fnExactLongestGap", apart := false }
def FnExactLongestGapSaid : Prop := fnExactLongestGapRow.holds Try.pinned (OpenSpec.ofChange fnExactLongestGapSpec)

/-- ITS FALSE NEIGHBOUR: 'it returns false'. Refute it at one input. -/
def fnExactLongestGapWrong : ChangeSpec := { name := "fnExactLongestGap", fn := fun _ => fun
  | [d1, d2, d3] => { results := [.lit (.bool false)], args := [d1, d2, d3] }
  | _ => none }
def FnExactLongestGapWrongFalsely : Prop := fnExactLongestGapRow.holds Try.pinned (OpenSpec.ofChange fnExactLongestGapWrong)

/-- 'laws.FnExactAddBooking': WHATEVER THE INPUT: true; the input reads as it did. -/
def fnExactAddBookingSpec : ChangeSpec := { name := "fnExactAddBooking", fn := fun _ => fun
  | [d1, d2] => { results := [.lit (.bool true)], args := [d1, d2] }
  | _ => none }
def fnExactAddBookingRow : OpenClaim := { program := "ythodceeioinnoaa", sum := "583c40b79f0cecdebe0420dd5ddf4a5b925083437cb5fc7dc64130eb948e4f2b", func := "loop.example/g01027/laws.FnExactAddBooking", spec := "fnExactAddBooking", apart := false }
def FnExactAddBookingSaid : Prop := fnExactAddBookingRow.holds Try.pinned (OpenSpec.ofChange fnExactAddBookingSpec)

/-- ITS FALSE NEIGHBOUR: 'it returns false'. Refute it at one input. -/
def fnExactAddBookingWrong : ChangeSpec := { name := "fnExactAddBooking", fn := fun _ => fun
  | [d1, d2] => { results := [.lit (.bool false)], args := [d1, d2] }
  | _ => none }
def FnExactAddBookingWrongFalsely : Prop := fnExactAddBookingRow.holds Try.pinned (OpenSpec.ofChange fnExactAddBookingWrong)

/-- 'laws.FnExactBookingsFor': WHATEVER THE INPUT: true; the input reads as it did. -/
def fnExactBookingsForSpec : ChangeSpec := { name := "fnExactBookingsFor", fn := fun _ => fun
  | [d1, d2] => { results := [.lit (.bool true)], args := [d1, d2] }
  | _ => none }
def fnExactBookingsForRow : OpenClaim := { program := "ythodceeioinnoaa", sum := "583c40b79f0cecdebe0420dd5ddf4a5b925083437cb5fc7dc64130eb948e4f2b", func := "loop.example/g01027/laws.FnExactBookingsFor", spec := "fnExactBookingsFor", apart := false }
def FnExactBookingsForSaid : Prop := fnExactBookingsForRow.holds Try.pinned (OpenSpec.ofChange fnExactBookingsForSpec)

/-- ITS FALSE NEIGHBOUR: 'it returns false'. Refute it at one input. -/
def fnExactBookingsForWrong : ChangeSpec := { name := "fnExactBookingsFor", fn := fun _ => fun
  | [d1, d2] => { results := [.lit (.bool false)], args := [d1, d2] }
  | _ => none }
def FnExactBookingsForWrongFalsely : Prop := fnExactBookingsForRow.holds Try.pinned (OpenSpec.ofChange fnExactBookingsForWrong)

/-- 'laws.FnExactRoomsFree': WHATEVER THE INPUT: true; the input reads as it did. -/
def fnExactRoomsFreeSpec : ChangeSpec := { name := "fnExactRoomsFree", fn := fun _ => fun
  | [d1, d2, d3, d4] => { results := [.lit (.bool true)], args := [d1, d2, d3, d4] }
  | _ => none }
def fnExactRoomsFreeRow : OpenClaim := { program := "ythodceeioinnoaa", sum := "583c40b79f0cecdebe0420dd5ddf4a5b925083437cb5fc7dc64130eb948e4f2b", func := "loop.example/g01027/laws.FnExactRoomsFree", spec := "fnExactRoomsFree", apart := false }
def FnExactRoomsFreeSaid : Prop := fnExactRoomsFreeRow.holds Try.pinned (OpenSpec.ofChange fnExactRoomsFreeSpec)

/-- ITS FALSE NEIGHBOUR: 'it returns false'. Refute it at one input. -/
def fnExactRoomsFreeWrong : ChangeSpec := { name := "fnExactRoomsFree", fn := fun _ => fun
  | [d1, d2, d3, d4] => { results := [.lit (.bool false)], args := [d1, d2, d3, d4] }
  | _ => none }
def FnExactRoomsFreeWrongFalsely : Prop := fnExactRoomsFreeRow.holds Try.pinned (OpenSpec.ofChange fnExactRoomsFreeWrong)

/-- 'laws.FnGaps': WHATEVER THE INPUT: true; the input reads as it did. -/
def fnGapsSpec : ChangeSpec := { name := "fnGaps", fn := fun _ => fun
  | [d] => { results := [.lit (.bool true)], args := [d] }
  | _ => none }
def fnGapsRow : OpenClaim := { program := "ythodceeioinnoaa", sum := "583c40b79f0cecdebe0420dd5ddf4a5b925083437cb5fc7dc64130eb948e4f2b", func := "loop.example/g01027/laws.FnGaps", spec := "fnGaps", apart := false }
def FnGapsSaid : Prop := fnGapsRow.holds Try.pinned (OpenSpec.ofChange fnGapsSpec)

/-- ITS FALSE NEIGHBOUR: 'it returns false'. Refute it at one input. -/
def fnGapsWrong : ChangeSpec := { name := "fnGaps", fn := fun _ => fun
  | [d] => { results := [.lit (.bool false)], args := [d] }
  | _ => none }
def FnGapsWrongFalsely : Prop := fnGapsRow.holds Try.pinned (OpenSpec.ofChange fnGapsWrong)

/-- 'laws.FnRooms': WHATEVER THE INPUT: true; the input reads as it did. -/
def fnRoomsSpec : ChangeSpec := { name := "fnRooms", fn := fun _ => fun
  | [d] => { results := [.lit (.bool true)], args := [d] }
  | _ => none }
def fnRoomsRow : OpenClaim := { program := "ythodceeioinnoaa", sum := "583c40b79f0cecdebe0420dd5ddf4a5b925083437cb5fc7dc64130eb948e4f2b", func := "loop.example/g01027/laws.FnRooms", spec := "fnRooms", apart := false }
def FnRoomsSaid : Prop := fnRoomsRow.holds Try.pinned (OpenSpec.ofChange fnRoomsSpec)

/-- ITS FALSE NEIGHBOUR: 'it returns false'. Refute it at one input. -/
def fnRoomsWrong : ChangeSpec := { name := "fnRooms", fn := fun _ => fun
  | [d] => { results := [.lit (.bool false)], args := [d] }
  | _ => none }
def FnRoomsWrongFalsely : Prop := fnRoomsRow.holds Try.pinned (OpenSpec.ofChange fnRoomsWrong)

/-- 'laws.FnExactIsExhibit': WHATEVER THE INPUT: true; the input reads as it did. -/
def fnExactIsExhibitSpec : ChangeSpec := { name := "fnExactIsExhibit", fn := fun _ => fun
  | [d] => { results := [.lit (.bool true)], args := [d] }
  | _ => none }
def fnExactIsExhibitRow : OpenClaim := { program := "ythodceeioinnoaa", sum := "583c40b79f0cecdebe0420dd5ddf4a5b925083437cb5fc7dc64130eb948e4f2b", func := "loop.example/g01027/laws.FnExactIsExhibit", spec := "fnExactIsExhibit", apart := false }
def FnExactIsExhibitSaid : Prop := fnExactIsExhibitRow.holds Try.pinned (OpenSpec.ofChange fnExactIsExhibitSpec)

/-- ITS FALSE NEIGHBOUR: 'it returns false'. Refute it at one input. -/
def fnExactIsExhibitWrong : ChangeSpec := { name := "fnExactIsExhibit", fn := fun _ => fun
  | [d] => { results := [.lit (.bool false)], args := [d] }
  | _ => none }
def FnExactIsExhibitWrongFalsely : Prop := fnExactIsExhibitRow.holds Try.pinned (OpenSpec.ofChange fnExactIsExhibitWrong)

/-- 'laws.FnExactFirstBreak': WHATEVER THE INPUT: true; the input reads as it did. -/
def fnExactFirstBreakSpec : ChangeSpec := { name := "fnExactFirstBreak", fn := fun _ => fun
  | [d] => { results := [.lit (.bool true)], args := [d] }
  | _ => none }
def fnExactFirstBreakRow : OpenClaim := { program := "ythodceeioinnoaa", sum := "583c40b79f0cecdebe0420dd5ddf4a5b925083437cb5fc7dc64130eb948e4f2b", func := "loop.example/g01027/laws.FnExactFirstBreak", spec := "fnExactFirstBreak", apart := false }
def FnExactFirstBreakSaid : Prop := fnExactFirstBreakRow.holds Try.pinned (OpenSpec.ofChange fnExactFirstBreakSpec)

/-- ITS FALSE NEIGHBOUR: 'it returns false'. Refute it at one input. -/
def fnExactFirstBreakWrong : ChangeSpec := { name := "fnExactFirstBreak", fn := fun _ => fun
  | [d] => { results := [.lit (.bool false)], args := [d] }
  | _ => none }
def FnExactFirstBreakWrongFalsely : Prop := fnExactFirstBreakRow.holds Try.pinned (OpenSpec.ofChange fnExactFirstBreakWrong)

/-- 'laws.FnExactAreExhibits': WHATEVER THE INPUT: true; the input reads as it did. -/
def fnExactAreExhibitsSpec : ChangeSpec := { name := "fnExactAreExhibits", fn := fun _ => fun
  | [d] => { results := [.lit (.bool true)], args := [d] }
  | _ => none }
def fnExactAreExhibitsRow : OpenClaim := { program := "ythodceeioinnoaa", sum := "583c40b79f0cecdebe0420dd5ddf4a5b925083437cb5fc7dc64130eb948e4f2b", func := "loop.example/g01027/laws.FnExactAreExhibits", spec := "fnExactAreExhibits", unfollowed := true, recurses := true, apart := false }
def FnExactAreExhibitsSaid : Prop := fnExactAreExhibitsRow.holds Try.pinned (OpenSpec.ofChange fnExactAreExhibitsSpec)

/-- ITS FALSE NEIGHBOUR: 'it returns false'. Refute it at one input. -/
def fnExactAreExhibitsWrong : ChangeSpec := { name := "fnExactAreExhibits", fn := fun _ => fun
  | [d] => { results := [.lit (.bool false)], args := [d] }
  | _ => none }
def FnExactAreExhibitsWrongFalsely : Prop := fnExactAreExhibitsRow.holds Try.pinned (OpenSpec.ofChange fnExactAreExhibitsWrong)

/- THE SECOND FORM. 'bulk': how many values and letters a reading holds, each counted each time it is reached (what is shared counts as often as it is met; a slice's spare places count too). A statement '..UptoSaid' is the law's where the arguments, and the package variables that the reading takes, are together of bulk at most 1048576: NARROWER than '..Said'. Prove '..Said' where nothing that the law and all that it calls make is longer than what came in: it says more and counts as full. Else prove '..UptoSaid'. A law counts once. -/
mutual
def uptoBulk {H : Type} : DataW H → Nat
  | .lit (.string bytes) => bytes.length + 1
  | .lit _ => 1
  | .nil => 1
  | .ptr d => uptoBulk d + 1
  | .slice elems spare => uptoBulkAll elems + uptoBulkAll spare + 1
  | .agg parts => uptoBulkAll parts + 1
  | .iface _ d => uptoBulk d + 1
  | .map entries => uptoBulkEntries entries + 1
  | .held _ => 1
def uptoBulkAll {H : Type} : List (DataW H) → Nat
  | [] => 0
  | d :: r => uptoBulk d + uptoBulkAll r
def uptoBulkEntries {H : Type} : List (Lit × DataW H) → Nat
  | [] => 0
  | x :: r => uptoBulkEntry x + uptoBulkEntries r
def uptoBulkEntry {H : Type} : Lit × DataW H → Nat
  | (.string bytes, d) => bytes.length + uptoBulk d + 1
  | (_, d) => uptoBulk d + 1
 end
def uptoSmall : (H : Type) → List (DataW H) → Bool := fun _ ds => decide (uptoBulkAll ds ≤ 1048576)
def OpenSpec.upto (s : _root_.Go.ChangeSpec) : _root_.Go.OpenSpec := { _root_.Go.OpenSpec.ofChange s with cond := some uptoSmall }

/-- 'laws.FnExactAreBookings', WHERE WHAT IT READS IS OF BULK AT MOST 1048576: true; the input reads as it did. -/
def fnExactAreBookingsUptoRow : OpenClaim := { program := "ythodceeioinnoaa", sum := "583c40b79f0cecdebe0420dd5ddf4a5b925083437cb5fc7dc64130eb948e4f2b", func := "loop.example/g01027/laws.FnExactAreBookings", spec := "fnExactAreBookings", apart := false, narrowed := true }
def FnExactAreBookingsUptoSaid : Prop := fnExactAreBookingsUptoRow.holds Try.pinned (OpenSpec.upto fnExactAreBookingsSpec)

/-- 'laws.FnExactQuartersKept', WHERE WHAT IT READS IS OF BULK AT MOST 1048576: true; the input reads as it did. -/
def fnExactQuartersKeptUptoRow : OpenClaim := { program := "ythodceeioinnoaa", sum := "583c40b79f0cecdebe0420dd5ddf4a5b925083437cb5fc7dc64130eb948e4f2b", func := "loop.example/g01027/laws.FnExactQuartersKept", spec := "fnExactQuartersKept", apart := false, narrowed := true }
def FnExactQuartersKeptUptoSaid : Prop := fnExactQuartersKeptUptoRow.holds Try.pinned (OpenSpec.upto fnExactQuartersKeptSpec)

/-- 'laws.FnExactFirstFree', WHERE WHAT IT READS IS OF BULK AT MOST 1048576: true; the input reads as it did. -/
def fnExactFirstFreeUptoRow : OpenClaim := { program := "ythodceeioinnoaa", sum := "583c40b79f0cecdebe0420dd5ddf4a5b925083437cb5fc7dc64130eb948e4f2b", func := "loop.example/g01027/laws.FnExactFirstFree", spec := "fnExactFirstFree", apart := false, narrowed := true }
def FnExactFirstFreeUptoSaid : Prop := fnExactFirstFreeUptoRow.holds Try.pinned (OpenSpec.upto fnExactFirstFreeSpec)

/-- 'laws.FnExactLongestGap', WHERE WHAT IT READS IS OF BULK AT MOST 1048576: true; the input reads as it did. -/
def fnExactLongestGapUptoRow : OpenClaim := { program := "ythodceeioinnoaa", sum := "583c40b79f0cecdebe0420dd5ddf4a5b925083437cb5fc7dc64130eb948e4f2b", func := "loop.example/g01027/laws.FnExactLongestGap", spec := "fnExactLongestGap", apart := false, narrowed := true }
def FnExactLongestGapUptoSaid : Prop := fnExactLongestGapUptoRow.holds Try.pinned (OpenSpec.upto fnExactLongestGapSpec)

/-- 'laws.FnExactAddBooking', WHERE WHAT IT READS IS OF BULK AT MOST 1048576: true; the input reads as it did. -/
def fnExactAddBookingUptoRow : OpenClaim := { program := "ythodceeioinnoaa", sum := "583c40b79f0cecdebe0420dd5ddf4a5b925083437cb5fc7dc64130eb948e4f2b", func := "loop.example/g01027/laws.FnExactAddBooking", spec := "fnExactAddBooking", apart := false, narrowed := true }
def FnExactAddBookingUptoSaid : Prop := fnExactAddBookingUptoRow.holds Try.pinned (OpenSpec.upto fnExactAddBookingSpec)

/-- 'laws.FnExactBookingsFor', WHERE WHAT IT READS IS OF BULK AT MOST 1048576: true; the input reads as it did. -/
def fnExactBookingsForUptoRow : OpenClaim := { program := "ythodceeioinnoaa", sum := "583c40b79f0cecdebe0420dd5ddf4a5b925083437cb5fc7dc64130eb948e4f2b", func := "loop.example/g01027/laws.FnExactBookingsFor", spec := "fnExactBookingsFor", apart := false, narrowed := true }
def FnExactBookingsForUptoSaid : Prop := fnExactBookingsForUptoRow.holds Try.pinned (OpenSpec.upto fnExactBookingsForSpec)

/-- 'laws.FnExactRoomsFree', WHERE WHAT IT READS IS OF BULK AT MOST 1048576: true; the input reads as it did. -/
def fnExactRoomsFreeUptoRow : OpenClaim := { program := "ythodceeioinnoaa", sum := "583c40b79f0cecdebe0420dd5ddf4a5b925083437cb5fc7dc64130eb948e4f2b", func := "loop.example/g01027/laws.FnExactRoomsFree", spec := "fnExactRoomsFree", apart := false, narrowed := true }
def FnExactRoomsFreeUptoSaid : Prop := fnExactRoomsFreeUptoRow.holds Try.pinned (OpenSpec.upto fnExactRoomsFreeSpec)

/-- 'laws.FnGaps', WHERE WHAT IT READS IS OF BULK AT MOST 1048576: true; the input reads as it did. -/
def fnGapsUptoRow : OpenClaim := { program := "ythodceeioinnoaa", sum := "583c40b79f0cecdebe0420dd5ddf4a5b925083437cb5fc7dc64130eb948e4f2b", func := "loop.example/g01027/laws.FnGaps", spec := "fnGaps", apart := false, narrowed := true }
def FnGapsUptoSaid : Prop := fnGapsUptoRow.holds Try.pinned (OpenSpec.upto fnGapsSpec)

/-- 'laws.FnRooms', WHERE WHAT IT READS IS OF BULK AT MOST 1048576: true; the input reads as it did. -/
def fnRoomsUptoRow : OpenClaim := { program := "ythodceeioinnoaa", sum := "583c40b79f0cecdebe0420dd5ddf4a5b925083437cb5fc7dc64130eb948e4f2b", func := "loop.example/g01027/laws.FnRooms", spec := "fnRooms", apart := false, narrowed := true }
def FnRoomsUptoSaid : Prop := fnRoomsUptoRow.holds Try.pinned (OpenSpec.upto fnRoomsSpec)

/-- 'laws.FnExactIsExhibit', WHERE WHAT IT READS IS OF BULK AT MOST 1048576: true; the input reads as it did. -/
def fnExactIsExhibitUptoRow : OpenClaim := { program := "ythodceeioinnoaa", sum := "583c40b79f0cecdebe0420dd5ddf4a5b925083437cb5fc7dc64130eb948e4f2b", func := "loop.example/g01027/laws.FnExactIsExhibit", spec := "fnExactIsExhibit", apart := false, narrowed := true }
def FnExactIsExhibitUptoSaid : Prop := fnExactIsExhibitUptoRow.holds Try.pinned (OpenSpec.upto fnExactIsExhibitSpec)

/-- 'laws.FnExactFirstBreak', WHERE WHAT IT READS IS OF BULK AT MOST 1048576: true; the input reads as it did. -/
def fnExactFirstBreakUptoRow : OpenClaim := { program := "ythodceeioinnoaa", sum := "583c40b79f0cecdebe0420dd5ddf4a5b925083437cb5fc7dc64130eb948e4f2b", func := "loop.example/g01027/laws.FnExactFirstBreak", spec := "fnExactFirstBreak", apart := false, narrowed := true }
def FnExactFirstBreakUptoSaid : Prop := fnExactFirstBreakUptoRow.holds Try.pinned (OpenSpec.upto fnExactFirstBreakSpec)

/-- 'laws.FnExactAreExhibits', WHERE WHAT IT READS IS OF BULK AT MOST 1048576: true; the input reads as it did. -/
def fnExactAreExhibitsUptoRow : OpenClaim := { program := "ythodceeioinnoaa", sum := "583c40b79f0cecdebe0420dd5ddf4a5b925083437cb5fc7dc64130eb948e4f2b", func := "loop.example/g01027/laws.FnExactAreExhibits", spec := "fnExactAreExhibits", unfollowed := true, recurses := true, apart := false, narrowed := true }
def FnExactAreExhibitsUptoSaid : Prop := fnExactAreExhibitsUptoRow.holds Try.pinned (OpenSpec.upto fnExactAreExhibitsSpec)

end Rows
end Go.Proofs.Ythodceeioinnoaa
