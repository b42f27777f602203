/- Handing: an element of a slice, its cells. Written by a program (gen_at.py). -/
import Derived.Test.YthodceeioinnoaaHandingH
import Derived.Test.YthodceeioinnoaaMem4
namespace Go.Proofs.Ythodceeioinnoaa
open Go.RowKit
theorem Handing.at {w w' : World} {lo hi B : Nat} {A : Option Addr} {n c : Nat} {xs : List Handing} {k : Nat} (h : RdF Handing.enc 4 w lo hi (.slice A n c) xs) (hb : Below B w w') (hB : hi ≤ B) (hk : k < xs.length) :
    ∃ (r : Handing) (b off : Nat), Hid (xs[k]? = some r) ∧ A = some ⟨b, off, none⟩ ∧ lo ≤ b ∧ b < hi ∧ w'.cell? ⟨b, off + k * 4, none⟩ = some (.int .i64 r.day) ∧ w'.cell? ⟨b, off + k * 4 + 1, none⟩ = some (.string r.frm) ∧ w'.cell? ⟨b, off + k * 4 + 2, none⟩ = some (.string r.to_) ∧ w'.cell? ⟨b, off + k * 4 + 3, none⟩ = some (.int .i64 r.sl) := by
  obtain ⟨r, b, off, h1, h2, h3, h4, h5⟩ := h.get hb hB hk
  exact ⟨r, b, off, h1, h2, h3, h4, h5 0 _ rfl, h5 1 _ rfl, h5 2 _ rfl, h5 3 _ rfl⟩
theorem Handing.one' (s : Handing) : ∀ u ∈ Handing.enc s, u.oneCell' = true := by
  intro u hu
  simp [Handing.enc] at hu
  rcases hu with rfl | rfl | rfl | rfl <;> rfl
end Go.Proofs.Ythodceeioinnoaa
