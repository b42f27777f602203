/- Custody: limits, codes, in plain Lean. -/
import Derived.Test.YtfafcicbfgdmcaaIntsW
import Derived.Test.YtfafcicbfgdmcaaStageW
import Derived.Test.YtfafcicbfgdmcaaCustodyH
namespace Go.Proofs.Ytfafcicbfgdmcaa
set_option linter.unusedVariables false

def lastCourt (hol : List Int) (day : Int) : Nat → Int
  | 0 => day
  | n + 1 => if court hol (day + ((n : Int) + 1)) then day + ((n : Int) + 1) else lastCourt hol day n
theorem lastCourt_bd (hol : List Int) (day : Int) : ∀ n : Nat, day ≤ lastCourt hol day n ∧ lastCourt hol day n ≤ day + n
  | 0 => by simp [lastCourt]
  | n + 1 => by
    have := lastCourt_bd hol day n
    unfold lastCourt
    split <;> omega
theorem lastCourt_yes {hol : List Int} {day : Int} {n : Nat} (h : court hol (day + (n : Int)) = true) : lastCourt hol day n = day + n := by
  cases n with
  | zero => simp [lastCourt]
  | succ n => have h' : court hol (day + ((n : Int) + 1)) = true := by simpa using h
              unfold lastCourt; rw [if_pos h']; simp
theorem lastCourt_no {hol : List Int} {day : Int} {n : Nat} (hn : 0 < n) (h : court hol (day + (n : Int)) = false) : lastCourt hol day n = lastCourt hol day (n - 1) := by
  cases n with
  | zero => omega
  | succ n => have h' : court hol (day + ((n : Int) + 1)) = false := by simpa using h
              rw [lastCourt, if_neg (by rw [h']; simp)]; rfl
def spanOf (s : Stage) (e : Bool) : Nat := (s.days + if e then s.more else 0).toNat
def Stage.fine (s : Stage) : Prop := 1 ≤ s.days ∧ s.days ≤ 400 ∧ 0 ≤ s.more ∧ s.more ≤ 400
theorem spanOf_bd {s : Stage} {e : Bool} (h : s.fine) : spanOf s e ≤ 800 ∧ ((spanOf s e : Nat) : Int) = s.days + (if e then s.more else 0) ∧ 1 ≤ spanOf s e := by
  obtain ⟨h1, h2, h3, h4⟩ := h
  unfold spanOf
  cases e <;> simp <;> omega
theorem stagesOk_fine {xs : List Stage} (h : stagesOk xs = true) : ∀ s ∈ xs, s.fine := by
  simp only [stagesOk, Bool.and_eq_true] at h
  have := prefAll_all (p := Stage.one) (q := fun before s => !before.any (Stage.named s.name)) h.1
  rw [List.take_length] at this
  intro s hs
  have := this s hs
  simp [Stage.one, inR] at this
  unfold Stage.fine; omega
theorem stagesOk_len {xs : List Stage} (h : stagesOk xs = true) : 1 ≤ xs.length ∧ xs.length ≤ 5 := by
  simp [stagesOk, inR] at h; omega
def Custody.befAt (c : Custody) : Nat → Int
  | 0 => c.start
  | k + 1 => (c.done[k]?).getD 0
def doneP (b : Int) (before : List Int) (d : Int) : Bool := inR d (before.getLast?.getD b) 20000
def Custody.ok (rules : List Stage) (c : Custody) : Bool := prefOk (doneP c.start) c.done && (stagesOk rules && (dayOk c.start && (decide (c.done.length ≤ rules.length) && decide (c.ext.length = rules.length))))
theorem Custody.ok_parts {rules : List Stage} {c : Custody} (h : c.ok rules = true) : prefOk (doneP c.start) c.done = true ∧ stagesOk rules = true ∧ dayOk c.start = true ∧ c.done.length ≤ rules.length ∧ c.ext.length = rules.length := by
  simp [Custody.ok] at h; exact h
theorem befAt_last (c : Custody) (k : Nat) (hk : k ≤ c.done.length) : (c.done.take k).getLast?.getD c.start = c.befAt k := by
  cases k with
  | zero => rfl
  | succ k =>
    have hx : c.done[k]? = some c.done[k] := List.getElem?_eq_getElem (by omega)
    rw [take_last hx, Custody.befAt, hx]; rfl
theorem befAt_bd {rules : List Stage} {c : Custody} (h : c.ok rules = true) (k : Nat) (hk : k ≤ c.done.length) : 0 ≤ c.befAt k ∧ c.befAt k ≤ 20000 := by
  obtain ⟨h1, -, h3, -, -⟩ := Custody.ok_parts h
  induction k with
  | zero => simp [dayOk, inR] at h3; simp [Custody.befAt]; omega
  | succ k ih =>
    have hx : c.done[k]? = some c.done[k] := List.getElem?_eq_getElem (by omega)
    have h4 := prefOk_at h1 hx
    rw [doneP, befAt_last c k (by omega)] at h4
    have h5 := ih (by omega)
    simp [inR] at h4
    rw [Custody.befAt, hx]
    simp; omega
def limitAt (rules : List Stage) (hol : List Int) (c : Custody) (stage : Nat) (day : Int) : Int :=
  match rules[stage]?, c.ext[stage]? with
  | some s, some e => lastCourt hol day (spanOf s e)
  | _, _ => 0
theorem limitAt_of {rules : List Stage} {hol : List Int} {c : Custody} {stage : Nat} {day : Int} {s : Stage} {e : Bool} (hs : rules[stage]? = some s) (he : c.ext[stage]? = some e) : limitAt rules hol c stage day = lastCourt hol day (spanOf s e) := by
  simp [limitAt, hs, he]
theorem limitAt_bd {rules : List Stage} {hol : List Int} {c : Custody} {stage : Nat} {day : Int} (h : c.ok rules = true) (hs : stage < rules.length) : day ≤ limitAt rules hol c stage day ∧ limitAt rules hol c stage day ≤ day + 800 := by
  obtain ⟨-, h2, -, -, h5⟩ := Custody.ok_parts h
  have e1 : rules[stage]? = some rules[stage] := List.getElem?_eq_getElem hs
  have e2 : c.ext[stage]? = some (c.ext[stage]'(by omega)) := List.getElem?_eq_getElem (by omega)
  rw [limitAt_of e1 e2]
  have := lastCourt_bd hol day (spanOf rules[stage] (c.ext[stage]'(by omega)))
  have := spanOf_bd (e := c.ext[stage]'(by omega)) (stagesOk_fine h2 _ (List.mem_of_getElem? e1))
  omega
def nextLimit (rules : List Stage) (hol : List Int) (c : Custody) : Int := limitAt rules hol c c.done.length (c.befAt c.done.length)
def stageCode (rules : List Stage) (hol : List Int) (c : Custody) (day : Int) : Int :=
  if holidaysOk hol && c.ok rules then (if dayOk day then (if c.done.length = rules.length then 4 else 0) else 2) else 1
theorem stageCode_ok {rules : List Stage} {hol : List Int} {c : Custody} {day : Int} (h : stageCode rules hol c day = 0) : holidaysOk hol = true ∧ c.ok rules = true ∧ dayOk day = true ∧ c.done.length < rules.length := by
  unfold stageCode at h
  split at h
  · rename_i h1
    simp only [Bool.and_eq_true] at h1
    split at h
    · rename_i h2
      split at h
      · omega
      · have := (Custody.ok_parts h1.2).2.2.2.1
        exact ⟨h1.1, h1.2, h2, by omega⟩
    · omega
  · omega
def limitOf (rules : List Stage) (hol : List Int) (c : Custody) : Int × Int := if stageCode rules hol c 0 = 0 then (nextLimit rules hol c, 0) else (0, stageCode rules hol c 0)
def daysLeft (rules : List Stage) (hol : List Int) (c : Custody) (day : Int) : Int × Int := if stageCode rules hol c day = 0 then (nextLimit rules hol c - day, 0) else (0, stageCode rules hol c day)
def lawAt (rules : List Stage) (hol : List Int) (c : Custody) (k : Nat) : Bool := decide (c.befAt (k + 1) ≤ limitAt rules hol c k (c.befAt k))
def isLawful (rules : List Stage) (hol : List Int) (c : Custody) : Bool × Int := if holidaysOk hol && c.ok rules then ((List.range c.done.length).all (lawAt rules hol c), 0) else (false, 1)
def latTo (rules : List Stage) (hol : List Int) (c : Custody) : Nat → Int
  | 0 => c.befAt c.done.length
  | j + 1 => limitAt rules hol c (c.done.length + j) (latTo rules hol c j)
theorem latTo_bd {rules : List Stage} {hol : List Int} {c : Custody} (h : c.ok rules = true) : ∀ j, c.done.length + j ≤ rules.length → 0 ≤ latTo rules hol c j ∧ latTo rules hol c j ≤ 20000 + 800 * j
  | 0, _ => by have := befAt_bd h c.done.length (Nat.le_refl _); simp [latTo]; omega
  | j + 1, hj => by
    have h1 := latTo_bd (hol := hol) h j (by omega)
    have h2 := limitAt_bd (hol := hol) (day := latTo rules hol c j) h (show c.done.length + j < rules.length by omega)
    simp only [latTo]; omega
def latestEnd (rules : List Stage) (hol : List Int) (c : Custody) : Int × Int := if stageCode rules hol c 0 = 0 then (latTo rules hol c (rules.length - c.done.length), 0) else (0, stageCode rules hol c 0)
theorem range_all_succ {p : Nat → Bool} {k : Nat} (h : (List.range k).all p = true) (hk : p k = true) : (List.range (k + 1)).all p = true := by rw [List.range_succ]; simp [List.all_append] at h ⊢; exact ⟨h, hk⟩
theorem range_all_false {p : Nat → Bool} {k n : Nat} (hk : p k = false) (hn : k < n) : (List.range n).all p = false := by
  rw [List.all_eq_false]; exact ⟨k, by simpa using hn, by simp [hk]⟩
theorem ret_ii {a b : Int × Int} (h : a = b) : Ending.returned (.tuple #[.int .i64 a.1, .int .i64 a.2]) = .returned (.tuple #[.int .i64 b.1, .int .i64 b.2]) := by rw [h]
end Go.Proofs.Ytfafcicbfgdmcaa
