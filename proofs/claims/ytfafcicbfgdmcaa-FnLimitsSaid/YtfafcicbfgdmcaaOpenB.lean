/- A slice of bytes that came in. Nothing of the program stands here. -/
import Derived.Test.YtfafcicbfgdmcaaOpen2
import Derived.Test.YtfafcicbfgdmcaaSrcW
namespace Go.Proofs.Ytfafcicbfgdmcaa
open Go.ChangeShapes Go.WideShapes Go.Deep Go.RowKit
theorem u8_bounds {n : Int} (h : (Lit.int .u8 n).wf = true) : 0 ≤ n ∧ n ≤ 255 := by
  simp [Lit.wf, IntKind.min, IntKind.max, IntKind.signed, IntKind.bits] at h
  omega
section
variable {H : Type} {enc0 : TypeId × Value → H} {P : Program} {w : World} {base : Nat} {spare : Nat → Bool} {held : Bool}
theorem open_bytes {t e : TypeId} {v : Value} {d : DataW H} {p : List MemPlace} {r : Reach} {b0 : Nat} (ht : P.underlying t = some (.slice e)) (he : P.underlying e = some (.int .u8)) (hC : P.cellsOf e = 1) (hv : Value.okWide P w r b0 t v) (h : DataW.Trod enc0 P w base spare held t v d p) :
    ∃ xs : List Int, RdF encByte 1 w 0 w.heap.size v xs ∧ xs.length ≤ maxLen ∧ ∀ x ∈ xs, 0 ≤ x ∧ x ≤ 255 :=
  open_flat (fun y : Int => 0 ≤ y ∧ y ≤ 255) ht hC (by omega) (fun n cs y hl hy => by
    obtain ⟨c, rfl⟩ := one_cell hl
    obtain ⟨a, e, _, hw⟩ := DataW.trod_int he hy
    simp at e
    subst e
    exact ⟨a, rfl, u8_bounds hw⟩) hv h
end
end Go.Proofs.Ytfafcicbfgdmcaa
