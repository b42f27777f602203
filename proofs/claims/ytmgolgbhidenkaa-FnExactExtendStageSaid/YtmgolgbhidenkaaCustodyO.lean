/- Custody: arguments opened. Written by a program (gen_nest.py). -/
import Derived.Test.YtmgolgbhidenkaaCustodyH
import Derived.Test.YtmgolgbhidenkaaOpen2
namespace Go.Proofs.Ytmgolgbhidenkaa
open Go.ChangeShapes Go.WideShapes Go.Deep Go.RowKit

def Custody.wf (s : Custody) : Prop := (-9223372036854775808 ≤ s.start ∧ s.start ≤ 9223372036854775807) ∧ (s.done.length ≤ 9223372036854775807 ∧ ∀ y ∈ s.done, -9223372036854775808 ≤ y ∧ y ≤ 9223372036854775807) ∧ (s.ext.length ≤ 9223372036854775807 ∧ ∀ y ∈ s.ext, True)
theorem Custody.big_of {s : Custody} (h : Custody.wf s) : Custody.big s := by
  obtain ⟨w0, w1, w2⟩ := h
  exact ⟨by have := w1.1; omega, by have := w2.1; omega⟩
section
variable {H : Type} {enc0 : TypeId × Value → H} {w : World} {base : Nat} {spare : Nat → Bool} {held : Bool}
set_option maxRecDepth 100000 in
theorem openCustody_cells {n : Nat} {cs : List Value} {y : DataW H × List MemPlace} (hl : cs.length = 3) (hy : DataW.trod enc0 Try.prog w base spare held n 26 cs = some y) : ∃ x : CustodyR, CustodyR.enc x = cs ∧ RdF encInt 1 w 0 w.heap.size x.p0 x.h.done ∧ RdF encBool 1 w 0 w.heap.size x.p1 x.h.ext ∧ Custody.wf x.h := by
  obtain ⟨m, hf⟩ := open_fields Try.underlying26 (by kernel_rfl) hl hy
  match cs, hl with
  | [c0, c1, c2], _ =>
    obtain ⟨z0, y0⟩ := hf 0 _ c0 rfl rfl
    obtain ⟨a0, e0, _, w0⟩ := DataW.trod_int Try.underlying2 y0
    simp at e0
    subst e0
    obtain ⟨z1, y1⟩ := hf 1 _ c1 rfl rfl
    obtain ⟨a1, r1, l1, b1⟩ := open_cellInt (P := Try.prog) Try.underlying23 Try.underlying2 (by kernel_rfl) y1
    obtain ⟨z2, y2⟩ := hf 2 _ c2 rfl rfl
    obtain ⟨a2, r2, l2, b2⟩ := open_cellBool (P := Try.prog) Try.underlying24 Try.underlying4 (by kernel_rfl) y2
    exact ⟨⟨⟨a0, a1, a2⟩, c1, c2⟩, rfl, r1, r2, i64_bounds w0, ⟨l1, b1⟩, ⟨l2, b2⟩⟩
set_option maxRecDepth 100000 in
theorem openCustody {v : Value} {d : DataW H} {p : List MemPlace} {r : Reach} {b0 : Nat} (hv : Value.okWide Try.prog w r b0 26 v) (h : DataW.Trod enc0 Try.prog w base spare held 26 v d p) :
    ∃ (x : Custody) (p0 p1 : Value), v = .agg #[.int .i64 x.start, p0, p1] ∧ RdF encInt 1 w 0 w.heap.size p0 x.done ∧ RdF encBool 1 w 0 w.heap.size p1 x.ext ∧ Custody.wf x := by
  obtain ⟨cs, rfl, hsz⟩ := okWide_struct Try.underlying26 hv
  obtain ⟨l⟩ := cs
  have hC : Try.prog.cellsOf 26 = 3 := by kernel_rfl
  obtain ⟨fuel, hf⟩ := h
  obtain ⟨x, hx, hw⟩ := openCustody_cells (by rw [hC] at hsz; simpa [Value.cells] using hsz) hf
  simp only [Value.cells] at hx
  exact ⟨x.h, x.p0, x.p1, by rw [← hx]; rfl, hw⟩
end
end Go.Proofs.Ytmgolgbhidenkaa
