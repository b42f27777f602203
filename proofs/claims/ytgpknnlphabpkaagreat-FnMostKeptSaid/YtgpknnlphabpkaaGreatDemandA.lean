/- Demand: an element of a slice, its cells. Written by a program (gen_at.py). -/
import Derived.Test.YtgpknnlphabpkaaGreatDemandH
import Derived.Test.YtgpknnlphabpkaaGreatMem4
namespace Go.Proofs.YtgpknnlphabpkaaGreat
open Go.RowKit
theorem Demand.at {w w' : World} {lo hi B : Nat} {A : Option Addr} {n c : Nat} {xs : List Demand} {k : Nat} (h : RdF Demand.enc 3 w lo hi (.slice A n c) xs) (hb : Below B w w') (hB : hi ≤ B) (hk : k < xs.length) :
    ∃ (r : Demand) (b off : Nat), Hid (xs[k]? = some r) ∧ A = some ⟨b, off, none⟩ ∧ lo ≤ b ∧ b < hi ∧ w'.cell? ⟨b, off + k * 3, none⟩ = some (.int .i64 r.kind) ∧ w'.cell? ⟨b, off + k * 3 + 1, none⟩ = some (.int .i64 r.a) ∧ w'.cell? ⟨b, off + k * 3 + 2, none⟩ = some (.int .i64 r.b) := by
  obtain ⟨r, b, off, h1, h2, h3, h4, h5⟩ := h.get hb hB hk
  exact ⟨r, b, off, h1, h2, h3, h4, h5 0 _ rfl, h5 1 _ rfl, h5 2 _ rfl⟩
theorem Demand.one' (s : Demand) : ∀ u ∈ Demand.enc s, u.oneCell' = true := by
  intro u hu
  simp [Demand.enc] at hu
  rcases hu with rfl | rfl | rfl <;> rfl
end Go.Proofs.YtgpknnlphabpkaaGreat
