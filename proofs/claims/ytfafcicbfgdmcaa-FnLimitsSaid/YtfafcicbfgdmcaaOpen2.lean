/- Arguments opened: slices behind a cell; slices of one-cell elements. Nothing of the program stands here. -/
import Derived.Test.YtfafcicbfgdmcaaOpen
import Derived.Test.YtfafcicbfgdmcaaMem4
namespace Go.Proofs.Ytfafcicbfgdmcaa
open Go.ChangeShapes Go.WideShapes Go.Deep Go.RowKit
section
variable {H : Type} {enc0 : TypeId × Value → H} {P : Program} {w : World} {base : Nat} {spare : Nat → Bool} {held : Bool}
/-- A cell that holds a slice: its elements read as a list. -/
theorem open_cell {α : Type} {enc : α → List Value} (Q : α → Prop) {sz : Nat} {t e : TypeId} {c : Value} {n0 : Nat} {y0 : DataW H × List MemPlace} (ht : P.underlying t = some (.slice e)) (hC : P.cellsOf e = sz) (hpos : 0 < sz)
    (hE : ∀ (n : Nat) (cs : List Value) (y : DataW H × List MemPlace), cs.length = sz → DataW.trod enc0 P w base spare held n e cs = some y → ∃ x : α, enc x = cs ∧ Q x)
    (h : DataW.trod enc0 P w base spare held n0 t [c] = some y0) : ∃ xs : List α, RdF enc sz w 0 w.heap.size c xs ∧ xs.length ≤ 9223372036854775807 ∧ ∀ x ∈ xs, Q x := by
  rcases open_slice ht h with ⟨hcs, _⟩ | ⟨a, l, cap, m, n, D, Pl, hcs, hb, hl, hm, hmm, _, hi⟩
  · simp at hcs
    subst hcs
    exact ⟨[], ⟨none, 0, rfl, Nat.le_refl _, fun h => absurd h (by simp)⟩, by simp, by simp⟩
  · simp at hcs
    subst hcs
    have hlm : l ≤ m := by rw [hmm]; split <;> omega
    obtain ⟨xs, hxl, hx⟩ := choose_list (α := α) (n := l) (p := fun i x => (∀ j u, (enc x)[j]? = some u → w.cell? ((a.add (i * sz)).add j) = some u) ∧ Q x) (fun i hi' => by
      obtain ⟨cs, hc, ht'⟩ := hi i (by omega)
      rw [hC] at hc
      obtain ⟨_, hcl, hat⟩ := World.cells?_some hc
      obtain ⟨x, hx, hq⟩ := hE n cs _ hcl ht'
      refine ⟨x, fun j u hu => ?_, hq⟩
      rw [hx] at hu
      have hj : j < sz := by rw [← hcl]; exact (List.getElem?_eq_some_iff.1 hu).1
      rw [hat j hj, hu])
    refine ⟨xs, ⟨some a, cap, by rw [hxl], by omega, fun hpos' => ?_⟩, by unfold maxLen at *; omega, fun x hx' => by obtain ⟨i, hi'⟩ := List.getElem?_of_mem hx'; exact (hx i x hi').2⟩
    obtain ⟨cs, hc, ht'⟩ := hi 0 (by omega)
    rw [hC] at hc
    obtain ⟨_, hcl, hat⟩ := World.cells?_some hc
    have h0 := hat 0 hpos
    rw [List.getElem?_eq_getElem (by omega)] at h0
    obtain ⟨b, off, spot⟩ := a
    have hs : spot = none := by simpa [Addr.add] using World.cell?_spot h0
    subst hs
    have hlt : b < w.heap.size := by simpa [Addr.add] using cell_lt h0
    refine ⟨b, off, rfl, Nat.zero_le _, hlt, fun i x hx' j u hu => ?_⟩
    have := (hx i x hx').1 j u hu
    rw [← this]
    congr 1
    unfold Addr.add
    split <;> split <;> simp_all [Nat.add_assoc]
theorem one_cell {cs : List Value} (h : cs.length = 1) : ∃ c, cs = [c] := by
  match cs, h with
  | [c], _ => exact ⟨c, rfl⟩
theorem open_cellStr {t e : TypeId} {c : Value} {n0 : Nat} {y0 : DataW H × List MemPlace} (ht : P.underlying t = some (.slice e)) (he : P.underlying e = some .string) (hC : P.cellsOf e = 1)
    (h : DataW.trod enc0 P w base spare held n0 t [c] = some y0) : ∃ xs : List ByteArray, RdF encStr 1 w 0 w.heap.size c xs ∧ xs.length ≤ 9223372036854775807 ∧ ∀ y ∈ xs, y.size ≤ 9223372036854775807 :=
  open_cell (fun y : ByteArray => y.size ≤ 9223372036854775807) ht hC (by omega) (fun n cs y hl hy => by
    obtain ⟨c, rfl⟩ := one_cell hl
    obtain ⟨a, e, _, hw⟩ := DataW.trod_string he hy
    simp at e
    subst e
    exact ⟨a, rfl, hw⟩) h
theorem open_cellInt {t e : TypeId} {c : Value} {n0 : Nat} {y0 : DataW H × List MemPlace} (ht : P.underlying t = some (.slice e)) (he : P.underlying e = some (.int .i64)) (hC : P.cellsOf e = 1)
    (h : DataW.trod enc0 P w base spare held n0 t [c] = some y0) : ∃ xs : List Int, RdF encInt 1 w 0 w.heap.size c xs ∧ xs.length ≤ 9223372036854775807 ∧ ∀ y ∈ xs, -9223372036854775808 ≤ y ∧ y ≤ 9223372036854775807 :=
  open_cell (fun y : Int => -9223372036854775808 ≤ y ∧ y ≤ 9223372036854775807) ht hC (by omega) (fun n cs y hl hy => by
    obtain ⟨c, rfl⟩ := one_cell hl
    obtain ⟨a, e, _, hw⟩ := DataW.trod_int he hy
    simp at e
    subst e
    exact ⟨a, rfl, i64_bounds hw⟩) h
theorem open_cellBool {t e : TypeId} {c : Value} {n0 : Nat} {y0 : DataW H × List MemPlace} (ht : P.underlying t = some (.slice e)) (he : P.underlying e = some .bool) (hC : P.cellsOf e = 1)
    (h : DataW.trod enc0 P w base spare held n0 t [c] = some y0) : ∃ xs : List Bool, RdF encBool 1 w 0 w.heap.size c xs ∧ xs.length ≤ 9223372036854775807 ∧ ∀ y ∈ xs, True :=
  open_cell (fun _ : Bool => True) ht hC (by omega) (fun n cs y hl hy => by
    obtain ⟨c, rfl⟩ := one_cell hl
    obtain ⟨a, e, _⟩ := DataW.trod_bool he hy
    simp at e
    subst e
    exact ⟨a, rfl, trivial⟩) h
/-- A slice of integers that came in. -/
theorem open_ints {t e : TypeId} {v : Value} {d : DataW H} {p : List MemPlace} {r : Reach} {b0 : Nat} (ht : P.underlying t = some (.slice e)) (he : P.underlying e = some (.int .i64)) (hC : P.cellsOf e = 1) (hv : Value.okWide P w r b0 t v) (h : DataW.Trod enc0 P w base spare held t v d p) :
    ∃ xs : List Int, RdF encInt 1 w 0 w.heap.size v xs ∧ xs.length ≤ maxLen ∧ ∀ x ∈ xs, -9223372036854775808 ≤ x ∧ x ≤ 9223372036854775807 :=
  open_flat (fun y : Int => -9223372036854775808 ≤ y ∧ y ≤ 9223372036854775807) ht hC (by omega) (fun n cs y hl hy => by
    obtain ⟨c, rfl⟩ := one_cell hl
    obtain ⟨a, e, _, hw⟩ := DataW.trod_int he hy
    simp at e
    subst e
    exact ⟨a, rfl, i64_bounds hw⟩) hv h
end
end Go.Proofs.Ytfafcicbfgdmcaa
