/- Handing: arguments opened. Written by a program (gen_struct.py). -/
import Derived.Test.YthodceeioinnoaaHandingH
import Derived.Test.YthodceeioinnoaaOpen
namespace Go.Proofs.Ythodceeioinnoaa
open Go.ChangeShapes Go.WideShapes Go.Deep Go.RowKit

def Handing.wf (s : Handing) : Prop := (-9223372036854775808 ≤ s.day ∧ s.day ≤ 9223372036854775807) ∧ s.frm.size ≤ 9223372036854775807 ∧ s.to_.size ≤ 9223372036854775807 ∧ (-9223372036854775808 ≤ s.sl ∧ s.sl ≤ 9223372036854775807)
section
variable {H : Type} {enc0 : TypeId × Value → H} {w : World} {base : Nat} {spare : Nat → Bool} {held : Bool}
set_option maxRecDepth 100000 in
theorem openHanding_cells {n : Nat} {cs : List Value} {y : DataW H × List MemPlace} (hl : cs.length = 4) (hy : DataW.trod enc0 Try.prog w base spare held n 115 cs = some y) : ∃ x : Handing, Handing.enc x = cs ∧ Handing.wf x := by
  obtain ⟨m, hf⟩ := open_fields Try.underlying115 (by kernel_rfl) hl hy
  match cs, hl with
  | [c0, c1, c2, c3], _ =>
    obtain ⟨z0, y0⟩ := hf 0 _ c0 rfl rfl
    obtain ⟨z1, y1⟩ := hf 1 _ c1 rfl rfl
    obtain ⟨z2, y2⟩ := hf 2 _ c2 rfl rfl
    obtain ⟨z3, y3⟩ := hf 3 _ c3 rfl rfl
    obtain ⟨a0, e0, _, w0⟩ := DataW.trod_int Try.underlying2 y0
    obtain ⟨a1, e1, _, w1⟩ := DataW.trod_string Try.underlying9 y1
    obtain ⟨a2, e2, _, w2⟩ := DataW.trod_string Try.underlying9 y2
    obtain ⟨a3, e3, _, w3⟩ := DataW.trod_int Try.underlying2 y3
    simp at e0 e1 e2 e3
    subst e0 e1 e2 e3
    exact ⟨⟨a0, a1, a2, a3⟩, rfl, i64_bounds w0, w1, w2, i64_bounds w3⟩
set_option maxRecDepth 100000 in
theorem openHandingS {v : Value} {d : DataW H} {p : List MemPlace} {r : Reach} {b0 : Nat} (hv : Value.okWide Try.prog w r b0 63 v) (h : DataW.Trod enc0 Try.prog w base spare held 63 v d p) :
    ∃ xs : List Handing, RdF Handing.enc 4 w 0 w.heap.size v xs ∧ xs.length ≤ maxLen ∧ ∀ x ∈ xs, Handing.wf x :=
  open_flat Handing.wf Try.underlying63 (by kernel_rfl) (by omega) (fun n cs y hl hy => openHanding_cells hl hy) hv h
set_option maxRecDepth 100000 in
theorem openHanding {v : Value} {d : DataW H} {p : List MemPlace} {r : Reach} {b0 : Nat} (hv : Value.okWide Try.prog w r b0 115 v) (h : DataW.Trod enc0 Try.prog w base spare held 115 v d p) :
    ∃ x : Handing, v = .agg #[.int .i64 x.day, .string x.frm, .string x.to_, .int .i64 x.sl] ∧ Handing.wf x := by
  obtain ⟨cs, rfl, hsz⟩ := okWide_struct Try.underlying115 hv
  obtain ⟨l⟩ := cs
  have hC : Try.prog.cellsOf 115 = 4 := by kernel_rfl
  obtain ⟨fuel, hf⟩ := h
  obtain ⟨x, hx, hw⟩ := openHanding_cells (by rw [hC] at hsz; simpa [Value.cells] using hsz) hf
  simp only [Value.cells] at hx
  exact ⟨x, by rw [← hx]; rfl, hw⟩
end
end Go.Proofs.Ythodceeioinnoaa
