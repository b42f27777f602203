/- Stage: an element of a slice, its cells. Written by a program (gen_at.py). -/
import Derived.Test.YtfafcicbfgdmcaaStageH
import Derived.Test.YtfafcicbfgdmcaaMem4
namespace Go.Proofs.Ytfafcicbfgdmcaa
open Go.RowKit
theorem Stage.at {w w' : World} {lo hi B : Nat} {A : Option Addr} {n c : Nat} {xs : List Stage} {k : Nat} (h : RdF Stage.enc 3 w lo hi (.slice A n c) xs) (hb : Below B w w') (hB : hi ≤ B) (hk : k < xs.length) :
    ∃ (r : Stage) (b off : Nat), Hid (xs[k]? = some r) ∧ A = some ⟨b, off, none⟩ ∧ lo ≤ b ∧ b < hi ∧ w'.cell? ⟨b, off + k * 3, none⟩ = some (.string r.name) ∧ w'.cell? ⟨b, off + k * 3 + 1, none⟩ = some (.int .i64 r.days) ∧ w'.cell? ⟨b, off + k * 3 + 2, none⟩ = some (.int .i64 r.more) := by
  obtain ⟨r, b, off, h1, h2, h3, h4, h5⟩ := h.get hb hB hk
  exact ⟨r, b, off, h1, h2, h3, h4, h5 0 _ rfl, h5 1 _ rfl, h5 2 _ rfl⟩
theorem Stage.one' (s : Stage) : ∀ u ∈ Stage.enc s, u.oneCell' = true := by
  intro u hu
  simp [Stage.enc] at hu
  rcases hu with rfl | rfl | rfl <;> rfl
end Go.Proofs.Ytfafcicbfgdmcaa
