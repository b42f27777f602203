/- Exhibits: the plain law of chains. -/
import Derived.Test.YthodceeioinnoaaBase
import Derived.Test.YthodceeioinnoaaExhibitH
namespace Go.Proofs.Ythodceeioinnoaa
set_option linter.unusedVariables false

def numOk (n : Int) : Bool := inR n 1 1000000
def Handing.ok (h : Handing) : Bool := dayOk h.day && (wordOk h.frm && (wordOk h.to_ && numOk h.sl))
def Exhibit.ok (x : Exhibit) : Bool := x.chain.all Handing.ok && (wordOk x.code && (wordOk x.found && (dayOk x.day && (numOk x.sl && decide (x.chain.length ≤ 12)))))
def Exhibit.coded (n : ByteArray) (t : Exhibit) : Bool := t.code.toList == n.toList
def Exhibit.pref (before : List Exhibit) (s : Exhibit) : Bool := s.ok && !before.any (Exhibit.coded s.code)
def exhibitsOk (xs : List Exhibit) : Bool := prefOk Exhibit.pref xs && decide (xs.length ≤ 10)

/-- The day and the holder ahead of handing k. -/
def Exhibit.dayAt (x : Exhibit) : Nat → Int
  | 0 => x.day
  | k + 1 => match x.chain[k]? with | some h => h.day | none => 0
def Exhibit.holderAt (x : Exhibit) : Nat → ByteArray
  | 0 => x.found
  | k + 1 => match x.chain[k]? with | some h => h.to_ | none => ByteArray.empty
theorem Exhibit.dayAt_succ {x : Exhibit} {k : Nat} {h : Handing} (hk : x.chain[k]? = some h) : x.dayAt (k + 1) = h.day := by simp [Exhibit.dayAt, hk]
theorem Exhibit.holderAt_succ {x : Exhibit} {k : Nat} {h : Handing} (hk : x.chain[k]? = some h) : x.holderAt (k + 1) = h.to_ := by simp [Exhibit.holderAt, hk]
def badH (d : Int) (n : ByteArray) (h : Handing) : Bool := decide (h.day < d) || (!(h.frm.toList == n.toList) || (h.to_.toList == h.frm.toList))
def Exhibit.badAt (x : Exhibit) (k : Nat) : Bool := match x.chain[k]? with | some h => badH (x.dayAt k) (x.holderAt k) h | none => false
theorem Exhibit.badAt_of {x : Exhibit} {k : Nat} {h : Handing} (hk : x.chain[k]? = some h) : x.badAt k = badH (x.dayAt k) (x.holderAt k) h := by simp [Exhibit.badAt, hk]
/-- The first number below n of which p holds, or n. -/
def firstN (p : Nat → Bool) : Nat → Nat
  | 0 => 0
  | n + 1 => if firstN p n < n then firstN p n else if p n then n else n + 1
theorem firstN_le (p : Nat → Bool) : ∀ n, firstN p n ≤ n
  | 0 => Nat.le_refl _
  | n + 1 => by have := firstN_le p n; unfold firstN; split <;> (try split) <;> omega
theorem firstN_stay {p : Nat → Bool} {k : Nat} (hk : firstN p k = k) (hp : p k = true) : ∀ n, k < n → firstN p n = k
  | 0, h => by omega
  | n + 1, h => by
    by_cases hkn : k = n
    · subst hkn; unfold firstN; rw [if_neg (by omega), if_pos hp]
    · have := firstN_stay hk hp n (by omega)
      unfold firstN; rw [this, if_pos (by omega)]
theorem firstN_next {p : Nat → Bool} {k : Nat} (hk : firstN p k = k) (hp : p k = false) : firstN p (k + 1) = k + 1 := by
  unfold firstN; rw [if_neg (by omega), if_neg (by simp [hp])]
def Exhibit.brk (x : Exhibit) : Nat := firstN x.badAt x.chain.length
def firstBreak (x : Exhibit) : Int × Int := if x.ok then (if x.brk = x.chain.length then (0, 4) else ((x.brk : Int), 0)) else (0, 1)
theorem ok_chain {x : Exhibit} (h : x.ok = true) : x.chain.length ≤ 12 := by simp [Exhibit.ok] at h; exact h.2.2.2.2.2
end Go.Proofs.Ythodceeioinnoaa
