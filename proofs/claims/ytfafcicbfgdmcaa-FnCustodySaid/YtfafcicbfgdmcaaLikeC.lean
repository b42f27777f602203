/- Helpers of the draw laws: likeCustody at equal custodies. -/
import Derived.Test.YtfafcicbfgdmcaaLike
import Derived.Test.YtfafcicbfgdmcaaCustodyH
namespace Go.Proofs.Ytfafcicbfgdmcaa
open Go.RowKit
set_option linter.unusedVariables false

set_option maxRecDepth 100000 in
set_option maxHeartbeats 2000000 in
theorem likeCustody_any (s : Custody) (p0 p1 p0' p1' : Value) (lo hi lo' hi' : Nat) (w : World) (h0 : RdF encInt 1 w lo hi p0 s.done) (h1 : RdF encBool 1 w lo hi p1 s.ext) (hh : hi ≤ w.heap.size) (h0' : RdF encInt 1 w lo' hi' p0' s.done) (h1' : RdF encBool 1 w lo' hi' p1' s.ext) (hh' : hi' ≤ w.heap.size) (hs : s.small) :
    Calls Try.prog 21 #[.agg #[.int .i64 s.start, p0, p1], .agg #[.int .i64 s.start, p0', p1']] w fun e w' => e = .returned (.bool true) ∧ Below w.heap.size w w' := by
  have hl0 := hs.len0
  have hl1 := hs.len1
  obtain ⟨A1, C1, rfl, hC1⟩ := h1.form
  obtain ⟨A1', C1', rfl, hC1'⟩ := h1'.form
  have kA := (Blk.newAt (w := w) (n := w.heap.size) (t := 28) (cs := #[.int .i64 s.start, p0, .slice A1 s.ext.length C1]) rfl).alloc (.cells #[.int .i64 s.start, p0', .slice A1' s.ext.length C1'] 28)
  have kB := Blk.newAt (w := w.alloc (.cells #[.int .i64 s.start, p0, .slice A1 s.ext.length C1] 28)) (n := w.heap.size + 1) (t := 28) (cs := #[.int .i64 s.start, p0', .slice A1' s.ext.length C1']) (by simp)
  have hbW : Below w.heap.size w ((w.alloc (.cells #[.int .i64 s.start, p0, .slice A1 s.ext.length C1] 28)).alloc (.cells #[.int .i64 s.start, p0', .slice A1' s.ext.length C1'] 28)) := ((Below.refl _ _).alloc (Nat.le_refl _) _).alloc (by simp) _
  have hzW : ((w.alloc (.cells #[.int .i64 s.start, p0, .slice A1 s.ext.length C1] 28)).alloc (.cells #[.int .i64 s.start, p0', .slice A1' s.ext.length C1'] 28)).heap.size = w.heap.size + 1 + 1 := by simp
  replace h0 := h0.below hbW hh
  replace h0' := h0'.below hbW hh'
  replace h1 := h1.below hbW hh
  replace h1' := h1'.below hbW hh'
  go_enter Try.func21, Try.ntmps21
  go_wp2_with fail
  generalize ((w.alloc (.cells #[.int .i64 s.start, p0, .slice A1 s.ext.length C1] 28)).alloc (.cells #[.int .i64 s.start, p0', .slice A1' s.ext.length C1'] 28)) = W0 at *
  refine (likeInts_any p0 p0' s.done _ _ _ _ _ h0 (by omega) h0' (by omega) (by omega)).mono ?_
  rintro e w1 ⟨rfl, b1⟩
  have z1 := b1.size
  replace kA := kA.below b1 (by omega)
  replace kB := kB.below b1 (by omega)
  replace hbW := Below.step b1 (by omega) hbW
  replace h1 := h1.below b1 (by omega)
  replace h1' := h1'.below b1 (by omega)
  clear b1 h0 h0'
  go_wp2_with fail
  go_loopw [5] (fun i wr => ∃ k : Nat, k ≤ s.ext.length ∧ i = .int .i64 k ∧ Below w1.heap.size w1 wr) (fun i _ => s.ext.length - (intOf i).toNat)
  case atStart => exact ⟨0, Nat.zero_le _, rfl, Below.refl _ _⟩
  case round =>
    obtain ⟨k, hk, rfl, hbel⟩ := hrel
    have z0 := hbel.size
    have kA' := kA.below hbel (by omega)
    have kB' := kB.below hbel (by omega)
    obtain ⟨qa0, qa1, qa2⟩ := kA'.c3
    obtain ⟨qb0, qb1, qb2⟩ := kB'.c3
    by_cases hlt : k < s.ext.length
    · have hki : (k : Int) < (s.ext.length : Int) := by omega
      obtain ⟨x, b, off, HS, rfl, -, hbw, hcell⟩ := RdF.get h1 hbel (by omega) hlt
      obtain ⟨x', b', off', HS', rfl, -, hbw', hcell'⟩ := RdF.get h1' hbel (by omega) hlt
      obtain rfl : x' = x := by have := HS'.out; rw [HS.out] at this; injection this with this; exact this.symm
      have x1 : wr.cell? ⟨b, off + k, none⟩ = some (.bool x') := by simpa [encBool] using hcell 0 _ rfl
      have x2 : wr.cell? ⟨b', off' + k, none⟩ = some (.bool x') := by simpa [encBool] using hcell' 0 _ rfl
      clear hcell hcell'
      go_wp2_with fail
      go_quiet (fail)
      go_wp2_with fail
      go_roundw
      case rel => exact ⟨k + 1, by omega, by go_num, by (repeat (first | with_reducible assumption | with_reducible exact Below.refl _ _ | with_reducible refine Below.setCell ?_ ?_ _ | with_reducible refine Below.alloc ?_ ?_ _ | with_reducible refine Below.drew ?_ | with_reducible refine below_drewN ?_ _ | with_reducible refine Below.step (by with_reducible assumption) ?_ ?_ | omega | (simp <;> omega) | (simp; done)))⟩
      case measure => simp [intOf]; omega
    · go_wp2_with fail
      go_ret
      exact ⟨rfl, by (repeat (first | with_reducible assumption | with_reducible exact Below.refl _ _ | with_reducible refine Below.setCell ?_ ?_ _ | with_reducible refine Below.alloc ?_ ?_ _ | with_reducible refine Below.drew ?_ | with_reducible refine below_drewN ?_ _ | with_reducible refine Below.step (by with_reducible assumption) ?_ ?_ | omega | (simp <;> omega) | (simp; done)))⟩
end Go.Proofs.Ytfafcicbfgdmcaa
