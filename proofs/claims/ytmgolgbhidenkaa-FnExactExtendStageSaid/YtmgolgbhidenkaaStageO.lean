/- Stage: arguments opened. Written by a program (gen_struct.py). -/
import Derived.Test.YtmgolgbhidenkaaStageH
import Derived.Test.YtmgolgbhidenkaaOpen
namespace Go.Proofs.Ytmgolgbhidenkaa
open Go.ChangeShapes Go.WideShapes Go.Deep Go.RowKit

def Stage.wf (s : Stage) : Prop := s.name.size ≤ 9223372036854775807 ∧ (-9223372036854775808 ≤ s.days ∧ s.days ≤ 9223372036854775807) ∧ (-9223372036854775808 ≤ s.more ∧ s.more ≤ 9223372036854775807)
section
variable {H : Type} {enc0 : TypeId × Value → H} {w : World} {base : Nat} {spare : Nat → Bool} {held : Bool}
set_option maxRecDepth 100000 in
theorem openStage_cells {n : Nat} {cs : List Value} {y : DataW H × List MemPlace} (hl : cs.length = 3) (hy : DataW.trod enc0 Try.prog w base spare held n 60 cs = some y) : ∃ x : Stage, Stage.enc x = cs ∧ Stage.wf x := by
  obtain ⟨m, hf⟩ := open_fields Try.underlying60 (by kernel_rfl) hl hy
  match cs, hl with
  | [c0, c1, c2], _ =>
    obtain ⟨z0, y0⟩ := hf 0 _ c0 rfl rfl
    obtain ⟨z1, y1⟩ := hf 1 _ c1 rfl rfl
    obtain ⟨z2, y2⟩ := hf 2 _ c2 rfl rfl
    obtain ⟨a0, e0, _, w0⟩ := DataW.trod_string Try.underlying9 y0
    obtain ⟨a1, e1, _, w1⟩ := DataW.trod_int Try.underlying2 y1
    obtain ⟨a2, e2, _, w2⟩ := DataW.trod_int Try.underlying2 y2
    simp at e0 e1 e2
    subst e0 e1 e2
    exact ⟨⟨a0, a1, a2⟩, rfl, w0, i64_bounds w1, i64_bounds w2⟩
set_option maxRecDepth 100000 in
theorem openStageS {v : Value} {d : DataW H} {p : List MemPlace} {r : Reach} {b0 : Nat} (hv : Value.okWide Try.prog w r b0 22 v) (h : DataW.Trod enc0 Try.prog w base spare held 22 v d p) :
    ∃ xs : List Stage, RdF Stage.enc 3 w 0 w.heap.size v xs ∧ xs.length ≤ maxLen ∧ ∀ x ∈ xs, Stage.wf x :=
  open_flat Stage.wf Try.underlying22 (by kernel_rfl) (by omega) (fun n cs y hl hy => openStage_cells hl hy) hv h
set_option maxRecDepth 100000 in
theorem openStage {v : Value} {d : DataW H} {p : List MemPlace} {r : Reach} {b0 : Nat} (hv : Value.okWide Try.prog w r b0 60 v) (h : DataW.Trod enc0 Try.prog w base spare held 60 v d p) :
    ∃ x : Stage, v = .agg #[.string x.name, .int .i64 x.days, .int .i64 x.more] ∧ Stage.wf x := by
  obtain ⟨cs, rfl, hsz⟩ := okWide_struct Try.underlying60 hv
  obtain ⟨l⟩ := cs
  have hC : Try.prog.cellsOf 60 = 3 := by kernel_rfl
  obtain ⟨fuel, hf⟩ := h
  obtain ⟨x, hx, hw⟩ := openStage_cells (by rw [hC] at hsz; simpa [Value.cells] using hsz) hf
  simp only [Value.cells] at hx
  exact ⟨x, by rw [← hx]; rfl, hw⟩
end
end Go.Proofs.Ytmgolgbhidenkaa
