/- Rows of bools that a call makes, stores into and appends to. No conditions. -/
import Derived.Test.YtfafcicbfgdmcaaSrcL
import Derived.Test.YtfafcicbfgdmcaaRowI
namespace Go.Proofs.Ytfafcicbfgdmcaa
open Go.RowKit
set_option linter.unusedVariables false

theorem encBool_flat (xs : List Bool) : xs.flatMap encBool = xs.map Value.bool := by
  induction xs with
  | nil => rfl
  | cons x xs ih => rw [List.flatMap_cons, ih]; rfl
theorem encBool_unit (b : Bool) : ∀ u ∈ encBool b, u.oneCell' = true := by
  intro u hu
  simp [encBool] at hu
  subst hu
  rfl
theorem madeBools (n : Nat) : (madeCells #[Value.bool false] (n * 1)).toList = (List.replicate n false).map Value.bool := by
  apply List.ext_getElem?
  intro i
  rw [Array.getElem?_toList]
  by_cases hi : i < n
  · rw [madeCells_at #[Value.bool false] (n * 1) i (by omega) (.bool false) (by
      have e : i % (#[Value.bool false]).size = 0 := Nat.mod_one i
      rw [e]; rfl)]
    simp [hi]
  · rw [Array.getElem?_eq_none (by simp [size_madeCells]; omega)]
    simp [hi]
theorem ownMade {w : World} {n base : Nat} {t : TypeId} (hb : base ≤ w.heap.size) (hn : n ≤ maxLen) : OwnL encBool 1 t (w.alloc (.cells (madeCells #[.bool false] (n * 1)) t)) base (.slice (some ⟨w.heap.size, 0, none⟩) n n) (List.replicate n false) := by
  refine ⟨by simp [encBool_flat], .inr ⟨w.heap.size, n, madeCells #[.bool false] (n * 1), by simp, hb, Blk.new w t _, by simp, hn, by simp [size_madeCells], ?_⟩⟩
  rw [encBool_flat, madeBools, List.length_replicate, Nat.mul_one, List.take_of_length_le (by simp)]
theorem OwnL.setIn {t : TypeId} {w : World} {base : Nat} {g n c : Nat} {xs : List Bool} (h : OwnL encBool 1 t w base (.slice (some ⟨g, 0, none⟩) n c) xs) (k : Nat) (b : Bool) : OwnL encBool 1 t (w.setCell ⟨g, k, none⟩ (.bool b)) base (.slice (some ⟨g, 0, none⟩) n c) (xs.set k b) := by
  refine ⟨by rw [encBool_flat]; simp, ?_⟩
  rcases h.2 with ⟨h0, -⟩ | ⟨g', cap, cur, e, h1, h2, h3, h4, h5, h6⟩
  · cases h0
  · injection e with e1 e2 e3
    injection e1 with e1
    injection e1 with e1
    subst e1 e3
    refine .inr ⟨g, c, cur.setIfInBounds k (.bool b), by rw [e2, List.length_set], h1, (show Blk w g t cur from h2).set_ k _, by rw [List.length_set]; exact h3, h4, by simpa using h5, ?_⟩
    rw [encBool_flat] at h6 ⊢
    rw [Array.toList_setIfInBounds, List.take_set, List.length_set, h6, List.map_set]
theorem OwnL.formB {α : Type} {enc : α → List Value} {sz : Nat} {t : TypeId} {w : World} {base : Nat} {A : Option Addr} {n c : Nat} {xs : List α} (h : OwnL enc sz t w base (.slice A n c) xs) (hn : 0 < n) : ∃ g, A = some ⟨g, 0, none⟩ ∧ base ≤ g ∧ n = xs.length ∧ ∃ cur, Blk w g t cur := by
  rcases h.2 with ⟨h0, -⟩ | ⟨g', cap, cur, e, h1, h2, -⟩
  · injection h0 with e1 e2 e3; omega
  · injection e with e1 e2 e3
    exact ⟨g', e1, h1, e2, cur, h2⟩
end Go.Proofs.Ytfafcicbfgdmcaa
