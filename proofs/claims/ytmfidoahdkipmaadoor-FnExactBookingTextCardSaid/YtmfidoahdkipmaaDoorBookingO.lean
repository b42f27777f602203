/- Booking: arguments opened. Written by a program (gen_struct.py). -/
import Derived.Test.YtmfidoahdkipmaaDoorBookingH
import Derived.Test.YtmfidoahdkipmaaDoorOpen
namespace Go.Proofs.YtmfidoahdkipmaaDoor
open Go.ChangeShapes Go.WideShapes Go.Deep Go.RowKit

def Booking.wf (s : Booking) : Prop := (-9223372036854775808 ≤ s.room ∧ s.room ≤ 9223372036854775807) ∧ (-9223372036854775808 ≤ s.day ∧ s.day ≤ 9223372036854775807) ∧ (-9223372036854775808 ≤ s.frm ∧ s.frm ≤ 9223372036854775807) ∧ (-9223372036854775808 ≤ s.to_ ∧ s.to_ ≤ 9223372036854775807) ∧ s.use.size ≤ 9223372036854775807
section
variable {H : Type} {enc0 : TypeId × Value → H} {w : World} {base : Nat} {spare : Nat → Bool} {held : Bool}
set_option maxRecDepth 100000 in
theorem openBooking_cells {n : Nat} {cs : List Value} {y : DataW H × List MemPlace} (hl : cs.length = 5) (hy : DataW.trod enc0 Tryd.prog w base spare held n 23 cs = some y) : ∃ x : Booking, Booking.enc x = cs ∧ Booking.wf x := by
  obtain ⟨m, hf⟩ := open_fields Tryd.underlying23 (by kernel_rfl) hl hy
  match cs, hl with
  | [c0, c1, c2, c3, c4], _ =>
    obtain ⟨z0, y0⟩ := hf 0 _ c0 rfl rfl
    obtain ⟨z1, y1⟩ := hf 1 _ c1 rfl rfl
    obtain ⟨z2, y2⟩ := hf 2 _ c2 rfl rfl
    obtain ⟨z3, y3⟩ := hf 3 _ c3 rfl rfl
    obtain ⟨z4, y4⟩ := hf 4 _ c4 rfl rfl
    obtain ⟨a0, e0, _, w0⟩ := DataW.trod_int Tryd.underlying2 y0
    obtain ⟨a1, e1, _, w1⟩ := DataW.trod_int Tryd.underlying2 y1
    obtain ⟨a2, e2, _, w2⟩ := DataW.trod_int Tryd.underlying2 y2
    obtain ⟨a3, e3, _, w3⟩ := DataW.trod_int Tryd.underlying2 y3
    obtain ⟨a4, e4, _, w4⟩ := DataW.trod_string Tryd.underlying9 y4
    simp at e0 e1 e2 e3 e4
    subst e0 e1 e2 e3 e4
    exact ⟨⟨a0, a1, a2, a3, a4⟩, rfl, i64_bounds w0, i64_bounds w1, i64_bounds w2, i64_bounds w3, w4⟩
set_option maxRecDepth 100000 in
theorem openBooking {v : Value} {d : DataW H} {p : List MemPlace} {r : Reach} {b0 : Nat} (hv : Value.okWide Tryd.prog w r b0 23 v) (h : DataW.Trod enc0 Tryd.prog w base spare held 23 v d p) :
    ∃ x : Booking, v = .agg #[.int .i64 x.room, .int .i64 x.day, .int .i64 x.frm, .int .i64 x.to_, .string x.use] ∧ Booking.wf x := by
  obtain ⟨cs, rfl, hsz⟩ := okWide_struct Tryd.underlying23 hv
  obtain ⟨l⟩ := cs
  have hC : Tryd.prog.cellsOf 23 = 5 := by kernel_rfl
  obtain ⟨fuel, hf⟩ := h
  obtain ⟨x, hx, hw⟩ := openBooking_cells (by rw [hC] at hsz; simpa [Value.cells] using hsz) hf
  simp only [Value.cells] at hx
  exact ⟨x, by rw [← hx]; rfl, hw⟩
end
end Go.Proofs.YtmfidoahdkipmaaDoor
