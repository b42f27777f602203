/- Hearings: what they are. -/
import Derived.Test.YtmgdkblleljdaaaGreatWordsW
import Derived.Test.YtmgdkblleljdaaaGreatHearingH
import Derived.Test.YtmgdkblleljdaaaGreatSlotW
namespace Go.Proofs.YtmgdkblleljdaaaGreat
set_option linter.unusedVariables false

def newW (before : List ByteArray) (p : ByteArray) : Bool := !hasW before p
def Hearing.ok (h : Hearing) : Bool := prefOk newW h.people && (wordOk h.code && (inR h.len 1 36 && (decide (h.people.length ≤ 8) && (h.people.all wordOk && dayOk h.last))))
theorem Hearing.ok_spec (h : Hearing) : h.ok = (prefOk (fun b p => wordOk p && newW b p) h.people && (wordOk h.code && (inR h.len 1 36 && (decide (h.people.length ≤ 8) && dayOk h.last)))) := by
  rw [prefOk_and, Hearing.ok]
  cases prefOk newW h.people <;> cases h.people.all wordOk <;> simp
theorem Hearing.ok_bounds {h : Hearing} (ho : h.ok = true) : 1 ≤ h.len ∧ h.len ≤ 36 ∧ 0 ≤ h.last ∧ h.last ≤ 20000 ∧ h.people.length ≤ 8 := by
  simp [Hearing.ok, inR, dayOk] at ho; omega
theorem Slot.ok_bounds {s : Slot} (ho : s.ok = true) : 0 ≤ s.room ∧ s.room ≤ 5 ∧ 0 ≤ s.day ∧ s.day ≤ 20000 ∧ 0 ≤ s.frm ∧ s.frm ≤ 35 := by
  simp [Slot.ok, roomOk, inR, dayOk] at ho; omega
def Hearing.coded (n : ByteArray) (t : Hearing) : Bool := t.code.toList == n.toList
def Hearing.pref (before : List Hearing) (s : Hearing) : Bool := s.ok && !before.any (Hearing.coded s.code)
def hearingsOk (xs : List Hearing) : Bool := prefOk Hearing.pref xs && decide (xs.length ≤ 5)
theorem hearingsOk_all {xs : List Hearing} (h : hearingsOk xs = true) : ∀ x ∈ xs, x.ok = true := by
  simp only [hearingsOk, Bool.and_eq_true] at h
  have := prefAll_all (p := Hearing.ok) (q := fun before s => !before.any (Hearing.coded s.code)) h.1
  rwa [List.take_length] at this
theorem hearingsOk_len {xs : List Hearing} (h : hearingsOk xs = true) : xs.length ≤ 5 := by simp [hearingsOk] at h; exact h.2
theorem slotsOk_all {xs : List Slot} (h : slotsOk xs = true) : ∀ x ∈ xs, x.ok = true := by simp [slotsOk] at h; exact h.1
def fitB (h : Hearing) (s : Slot) : Bool := decide (s.frm + h.len ≤ 36) && decide (s.day ≤ h.last)
def doesFit (h : Hearing) (s : Slot) : Bool × Int := if h.ok && s.ok then (fitB h s, 0) else (false, 1)
theorem ret_bc {a b : Bool} {c d : Int} (h : (a, c) = (b, d)) : Ending.returned (.tuple #[.bool a, .int .i64 c]) = .returned (.tuple #[.bool b, .int .i64 d]) := by
  injection h with h1 h2; rw [h1, h2]
end Go.Proofs.YtmgdkblleljdaaaGreat
