/- Slot: copies, comparison, size, as walks. Written by a program (gen_struct.py). -/
import Derived.Test.YtmgdkblleljdaaaGreatRows
import Derived.Test.YtmgdkblleljdaaaGreatMem
import Derived.StillTailTactics
namespace Go.Proofs.YtmgdkblleljdaaaGreat
open Go.RowKit

structure Slot where
  room : Int
  day : Int
  frm : Int
def Slot.enc (s : Slot) : List Value := [.int .i64 s.room, .int .i64 s.day, .int .i64 s.frm]
def Slot.beq (s t : Slot) : Bool := ((s.room == t.room) && ((s.day == t.day) && (s.frm == t.frm)))
theorem Slot.beq_iff {s t : Slot} : Slot.beq s t = true ↔ s = t := by
  obtain ⟨a0, a1, a2⟩ := s; obtain ⟨b0, b1, b2⟩ := t; simp [Slot.beq]






end Go.Proofs.YtmgdkblleljdaaaGreat
