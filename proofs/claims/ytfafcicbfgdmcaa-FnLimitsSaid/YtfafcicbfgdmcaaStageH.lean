/- Stage: copies, comparison, size, as walks. Written by a program (gen_struct.py). -/
import Derived.Test.YtfafcicbfgdmcaaRows
import Derived.Test.YtfafcicbfgdmcaaMem
import Derived.StillTailTactics
namespace Go.Proofs.Ytfafcicbfgdmcaa
open Go.RowKit

structure Stage where
  name : ByteArray
  days : Int
  more : Int
def Stage.enc (s : Stage) : List Value := [.string s.name, .int .i64 s.days, .int .i64 s.more]
def Stage.beq (s t : Stage) : Bool := ((s.name.toList == t.name.toList) && ((s.days == t.days) && (s.more == t.more)))
theorem Stage.beq_iff {s t : Stage} : Stage.beq s t = true ↔ s = t := by
  obtain ⟨a0, a1, a2⟩ := s; obtain ⟨b0, b1, b2⟩ := t; simp [Stage.beq, toList_inj]





def Stage.small (s : Stage) : Prop := s.name.size ≤ 1048576
def Stage.Sz (l : Int) (s : Stage) (r : Int) : Prop := r ≤ l ∧ (0 ≤ r → s.name.size ≤ l)
def Stage.SzS (l : Int) (xs : List Stage) (r : Int) : Prop := r ≤ l ∧ (0 ≤ r → xs.length ≤ l ∧ ∀ x ∈ xs, x.name.size ≤ l)


end Go.Proofs.Ytfafcicbfgdmcaa
