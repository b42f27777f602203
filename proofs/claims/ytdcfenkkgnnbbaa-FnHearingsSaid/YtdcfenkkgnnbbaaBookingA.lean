/- Booking: an element of a slice, its cells. Written by a program (gen_at.py). -/
import Derived.Test.YtdcfenkkgnnbbaaBookingH
import Derived.Test.YtdcfenkkgnnbbaaMem4
namespace Go.Proofs.Ytdcfenkkgnnbbaa
open Go.RowKit
theorem Booking.at {w w' : World} {lo hi B : Nat} {A : Option Addr} {n c : Nat} {xs : List Booking} {k : Nat} (h : RdF Booking.enc 5 w lo hi (.slice A n c) xs) (hb : Below B w w') (hB : hi ≤ B) (hk : k < xs.length) :
    ∃ (r : Booking) (b off : Nat), Hid (xs[k]? = some r) ∧ A = some ⟨b, off, none⟩ ∧ lo ≤ b ∧ b < hi ∧ w'.cell? ⟨b, off + k * 5, none⟩ = some (.int .i64 r.room) ∧ w'.cell? ⟨b, off + k * 5 + 1, none⟩ = some (.int .i64 r.day) ∧ w'.cell? ⟨b, off + k * 5 + 2, none⟩ = some (.int .i64 r.frm) ∧ w'.cell? ⟨b, off + k * 5 + 3, none⟩ = some (.int .i64 r.to_) ∧ w'.cell? ⟨b, off + k * 5 + 4, none⟩ = some (.string r.use) := by
  obtain ⟨r, b, off, h1, h2, h3, h4, h5⟩ := h.get hb hB hk
  exact ⟨r, b, off, h1, h2, h3, h4, h5 0 _ rfl, h5 1 _ rfl, h5 2 _ rfl, h5 3 _ rfl, h5 4 _ rfl⟩
theorem Booking.one' (s : Booking) : ∀ u ∈ Booking.enc s, u.oneCell' = true := by
  intro u hu
  simp [Booking.enc] at hu
  rcases hu with rfl | rfl | rfl | rfl | rfl <;> rfl
end Go.Proofs.Ytdcfenkkgnnbbaa
