/- Exhibit: arguments opened. Written by a program (gen_nest.py). -/
import Derived.Test.YthodceeioinnoaaExhibitH
import Derived.Test.YthodceeioinnoaaOpen2
import Derived.Test.YthodceeioinnoaaHandingO
namespace Go.Proofs.Ythodceeioinnoaa
open Go.ChangeShapes Go.WideShapes Go.Deep Go.RowKit

def Exhibit.wf (s : Exhibit) : Prop := s.code.size ≤ 9223372036854775807 ∧ s.found.size ≤ 9223372036854775807 ∧ (-9223372036854775808 ≤ s.day ∧ s.day ≤ 9223372036854775807) ∧ (-9223372036854775808 ≤ s.sl ∧ s.sl ≤ 9223372036854775807) ∧ (s.chain.length ≤ 9223372036854775807 ∧ ∀ y ∈ s.chain, Handing.wf y)
theorem Exhibit.big_of {s : Exhibit} (h : Exhibit.wf s) : Exhibit.big s := by
  obtain ⟨w0, w1, w2, w3, w4⟩ := h
  exact ⟨by omega, by omega, by have := w4.1; omega, fun y hy => by have := w4.2 y hy; unfold Handing.wf at this; omega⟩
section
variable {H : Type} {enc0 : TypeId × Value → H} {w : World} {base : Nat} {spare : Nat → Bool} {held : Bool}
set_option maxRecDepth 100000 in
theorem openExhibit_cells {n : Nat} {cs : List Value} {y : DataW H × List MemPlace} (hl : cs.length = 5) (hy : DataW.trod enc0 Try.prog w base spare held n 65 cs = some y) : ∃ x : ExhibitR, ExhibitR.enc x = cs ∧ RdF Handing.enc 4 w 0 w.heap.size x.p0 x.h.chain ∧ Exhibit.wf x.h := by
  obtain ⟨m, hf⟩ := open_fields Try.underlying65 (by kernel_rfl) hl hy
  match cs, hl with
  | [c0, c1, c2, c3, c4], _ =>
    obtain ⟨z0, y0⟩ := hf 0 _ c0 rfl rfl
    obtain ⟨a0, e0, _, w0⟩ := DataW.trod_string Try.underlying9 y0
    simp at e0
    subst e0
    obtain ⟨z1, y1⟩ := hf 1 _ c1 rfl rfl
    obtain ⟨a1, e1, _, w1⟩ := DataW.trod_string Try.underlying9 y1
    simp at e1
    subst e1
    obtain ⟨z2, y2⟩ := hf 2 _ c2 rfl rfl
    obtain ⟨a2, e2, _, w2⟩ := DataW.trod_int Try.underlying2 y2
    simp at e2
    subst e2
    obtain ⟨z3, y3⟩ := hf 3 _ c3 rfl rfl
    obtain ⟨a3, e3, _, w3⟩ := DataW.trod_int Try.underlying2 y3
    simp at e3
    subst e3
    obtain ⟨z4, y4⟩ := hf 4 _ c4 rfl rfl
    obtain ⟨a4, r4, l4, b4⟩ := open_cell Handing.wf Try.underlying63 (by kernel_rfl) (by omega) (fun n cs y hl hy => openHanding_cells hl hy) y4
    exact ⟨⟨⟨a0, a1, a2, a3, a4⟩, c4⟩, rfl, r4, w0, w1, i64_bounds w2, i64_bounds w3, ⟨l4, b4⟩⟩
set_option maxRecDepth 100000 in
theorem openExhibitS {v : Value} {d : DataW H} {p : List MemPlace} {r : Reach} {b0 : Nat} (hv : Value.okWide Try.prog w r b0 75 v) (h : DataW.Trod enc0 Try.prog w base spare held 75 v d p) :
    ∃ xs : List Exhibit, RdExhibit w 0 w.heap.size v xs ∧ xs.length ≤ maxLen ∧ ∀ x ∈ xs, Exhibit.wf x := by
  obtain ⟨rs, h1, h2, h3⟩ := open_flat (enc := ExhibitR.enc) (fun x : ExhibitR => RdF Handing.enc 4 w 0 w.heap.size x.p0 x.h.chain ∧ Exhibit.wf x.h) Try.underlying75 (by kernel_rfl) (by omega) (fun n cs y hl hy => openExhibit_cells hl hy) hv h
  refine ⟨rs.map ExhibitR.h, ⟨rs, rfl, h1, fun r hr => (h3 r hr).1⟩, by rw [List.length_map]; exact h2, fun x hx => ?_⟩
  obtain ⟨r, hr, rfl⟩ := List.mem_map.1 hx
  exact (h3 r hr).2
set_option maxRecDepth 100000 in
theorem openExhibit {v : Value} {d : DataW H} {p : List MemPlace} {r : Reach} {b0 : Nat} (hv : Value.okWide Try.prog w r b0 65 v) (h : DataW.Trod enc0 Try.prog w base spare held 65 v d p) :
    ∃ (x : Exhibit) (p0 : Value), v = .agg #[.string x.code, .string x.found, .int .i64 x.day, .int .i64 x.sl, p0] ∧ RdF Handing.enc 4 w 0 w.heap.size p0 x.chain ∧ Exhibit.wf x := by
  obtain ⟨cs, rfl, hsz⟩ := okWide_struct Try.underlying65 hv
  obtain ⟨l⟩ := cs
  have hC : Try.prog.cellsOf 65 = 5 := by kernel_rfl
  obtain ⟨fuel, hf⟩ := h
  obtain ⟨x, hx, hw⟩ := openExhibit_cells (by rw [hC] at hsz; simpa [Value.cells] using hsz) hf
  simp only [Value.cells] at hx
  exact ⟨x.h, x.p0, by rw [← hx]; rfl, hw⟩
end
end Go.Proofs.Ythodceeioinnoaa
