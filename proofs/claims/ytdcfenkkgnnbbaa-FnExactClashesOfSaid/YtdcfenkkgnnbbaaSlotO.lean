/- Slot: arguments opened. Written by a program (gen_struct.py). -/
import Derived.Test.YtdcfenkkgnnbbaaSlotH
import Derived.Test.YtdcfenkkgnnbbaaOpen
namespace Go.Proofs.Ytdcfenkkgnnbbaa
open Go.ChangeShapes Go.WideShapes Go.Deep Go.RowKit

def Slot.wf (s : Slot) : Prop := (-9223372036854775808 ≤ s.room ∧ s.room ≤ 9223372036854775807) ∧ (-9223372036854775808 ≤ s.day ∧ s.day ≤ 9223372036854775807) ∧ (-9223372036854775808 ≤ s.frm ∧ s.frm ≤ 9223372036854775807)
section
variable {H : Type} {enc0 : TypeId × Value → H} {w : World} {base : Nat} {spare : Nat → Bool} {held : Bool}
set_option maxRecDepth 100000 in
theorem openSlot_cells {n : Nat} {cs : List Value} {y : DataW H × List MemPlace} (hl : cs.length = 3) (hy : DataW.trod enc0 Try.prog w base spare held n 26 cs = some y) : ∃ x : Slot, Slot.enc x = cs ∧ Slot.wf x := by
  obtain ⟨m, hf⟩ := open_fields Try.underlying26 (by kernel_rfl) hl hy
  match cs, hl with
  | [c0, c1, c2], _ =>
    obtain ⟨z0, y0⟩ := hf 0 _ c0 rfl rfl
    obtain ⟨z1, y1⟩ := hf 1 _ c1 rfl rfl
    obtain ⟨z2, y2⟩ := hf 2 _ c2 rfl rfl
    obtain ⟨a0, e0, _, w0⟩ := DataW.trod_int Try.underlying2 y0
    obtain ⟨a1, e1, _, w1⟩ := DataW.trod_int Try.underlying2 y1
    obtain ⟨a2, e2, _, w2⟩ := DataW.trod_int Try.underlying2 y2
    simp at e0 e1 e2
    subst e0 e1 e2
    exact ⟨⟨a0, a1, a2⟩, rfl, i64_bounds w0, i64_bounds w1, i64_bounds w2⟩
set_option maxRecDepth 100000 in
theorem openSlotS {v : Value} {d : DataW H} {p : List MemPlace} {r : Reach} {b0 : Nat} (hv : Value.okWide Try.prog w r b0 51 v) (h : DataW.Trod enc0 Try.prog w base spare held 51 v d p) :
    ∃ xs : List Slot, RdF Slot.enc 3 w 0 w.heap.size v xs ∧ xs.length ≤ maxLen ∧ ∀ x ∈ xs, Slot.wf x :=
  open_flat Slot.wf Try.underlying51 (by kernel_rfl) (by omega) (fun n cs y hl hy => openSlot_cells hl hy) hv h
set_option maxRecDepth 100000 in
theorem openSlot {v : Value} {d : DataW H} {p : List MemPlace} {r : Reach} {b0 : Nat} (hv : Value.okWide Try.prog w r b0 26 v) (h : DataW.Trod enc0 Try.prog w base spare held 26 v d p) :
    ∃ x : Slot, v = .agg #[.int .i64 x.room, .int .i64 x.day, .int .i64 x.frm] ∧ Slot.wf x := by
  obtain ⟨cs, rfl, hsz⟩ := okWide_struct Try.underlying26 hv
  obtain ⟨l⟩ := cs
  have hC : Try.prog.cellsOf 26 = 3 := by kernel_rfl
  obtain ⟨fuel, hf⟩ := h
  obtain ⟨x, hx, hw⟩ := openSlot_cells (by rw [hC] at hsz; simpa [Value.cells] using hsz) hf
  simp only [Value.cells] at hx
  exact ⟨x, by rw [← hx]; rfl, hw⟩
end
end Go.Proofs.Ytdcfenkkgnnbbaa
