/- Hearing: arguments opened. Written by a program (gen_nest.py). -/
import Derived.Test.YtdcfenkkgnnbbaaHearingH
import Derived.Test.YtdcfenkkgnnbbaaOpen2
namespace Go.Proofs.Ytdcfenkkgnnbbaa
open Go.ChangeShapes Go.WideShapes Go.Deep Go.RowKit

def Hearing.wf (s : Hearing) : Prop := s.code.size ≤ 9223372036854775807 ∧ (-9223372036854775808 ≤ s.len ∧ s.len ≤ 9223372036854775807) ∧ (s.people.length ≤ 9223372036854775807 ∧ ∀ y ∈ s.people, y.size ≤ 9223372036854775807) ∧ (-9223372036854775808 ≤ s.last ∧ s.last ≤ 9223372036854775807)
theorem Hearing.big_of {s : Hearing} (h : Hearing.wf s) : Hearing.big s := by
  obtain ⟨w0, w1, w2, w3⟩ := h
  exact ⟨by omega, by have := w2.1; omega, fun y hy => by have := w2.2 y hy; omega⟩
section
variable {H : Type} {enc0 : TypeId × Value → H} {w : World} {base : Nat} {spare : Nat → Bool} {held : Bool}
set_option maxRecDepth 100000 in
theorem openHearing_cells {n : Nat} {cs : List Value} {y : DataW H × List MemPlace} (hl : cs.length = 4) (hy : DataW.trod enc0 Try.prog w base spare held n 24 cs = some y) : ∃ x : HearingR, HearingR.enc x = cs ∧ RdF encStr 1 w 0 w.heap.size x.p0 x.h.people ∧ Hearing.wf x.h := by
  obtain ⟨m, hf⟩ := open_fields Try.underlying24 (by kernel_rfl) hl hy
  match cs, hl with
  | [c0, c1, c2, c3], _ =>
    obtain ⟨z0, y0⟩ := hf 0 _ c0 rfl rfl
    obtain ⟨a0, e0, _, w0⟩ := DataW.trod_string Try.underlying9 y0
    simp at e0
    subst e0
    obtain ⟨z1, y1⟩ := hf 1 _ c1 rfl rfl
    obtain ⟨a1, e1, _, w1⟩ := DataW.trod_int Try.underlying2 y1
    simp at e1
    subst e1
    obtain ⟨z2, y2⟩ := hf 2 _ c2 rfl rfl
    obtain ⟨a2, r2, l2, b2⟩ := open_cellStr (P := Try.prog) Try.underlying22 Try.underlying9 (by kernel_rfl) y2
    obtain ⟨z3, y3⟩ := hf 3 _ c3 rfl rfl
    obtain ⟨a3, e3, _, w3⟩ := DataW.trod_int Try.underlying2 y3
    simp at e3
    subst e3
    exact ⟨⟨⟨a0, a1, a2, a3⟩, c2⟩, rfl, r2, w0, i64_bounds w1, ⟨l2, b2⟩, i64_bounds w3⟩
set_option maxRecDepth 100000 in
theorem openHearingS {v : Value} {d : DataW H} {p : List MemPlace} {r : Reach} {b0 : Nat} (hv : Value.okWide Try.prog w r b0 36 v) (h : DataW.Trod enc0 Try.prog w base spare held 36 v d p) :
    ∃ xs : List Hearing, RdHearing w 0 w.heap.size v xs ∧ xs.length ≤ maxLen ∧ ∀ x ∈ xs, Hearing.wf x := by
  obtain ⟨rs, h1, h2, h3⟩ := open_flat (enc := HearingR.enc) (fun x : HearingR => RdF encStr 1 w 0 w.heap.size x.p0 x.h.people ∧ Hearing.wf x.h) Try.underlying36 (by kernel_rfl) (by omega) (fun n cs y hl hy => openHearing_cells hl hy) hv h
  refine ⟨rs.map HearingR.h, ⟨rs, rfl, h1, fun r hr => (h3 r hr).1⟩, by rw [List.length_map]; exact h2, fun x hx => ?_⟩
  obtain ⟨r, hr, rfl⟩ := List.mem_map.1 hx
  exact (h3 r hr).2
set_option maxRecDepth 100000 in
theorem openHearing {v : Value} {d : DataW H} {p : List MemPlace} {r : Reach} {b0 : Nat} (hv : Value.okWide Try.prog w r b0 24 v) (h : DataW.Trod enc0 Try.prog w base spare held 24 v d p) :
    ∃ (x : Hearing) (p0 : Value), v = .agg #[.string x.code, .int .i64 x.len, p0, .int .i64 x.last] ∧ RdF encStr 1 w 0 w.heap.size p0 x.people ∧ Hearing.wf x := by
  obtain ⟨cs, rfl, hsz⟩ := okWide_struct Try.underlying24 hv
  obtain ⟨l⟩ := cs
  have hC : Try.prog.cellsOf 24 = 4 := by kernel_rfl
  obtain ⟨fuel, hf⟩ := h
  obtain ⟨x, hx, hw⟩ := openHearing_cells (by rw [hC] at hsz; simpa [Value.cells] using hsz) hf
  simp only [Value.cells] at hx
  exact ⟨x.h, x.p0, by rw [← hx]; rfl, hw⟩
end
end Go.Proofs.Ytdcfenkkgnnbbaa
