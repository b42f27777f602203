/- The plain law of custody: extending gives no less time, a stage that is reached lawfully keeps it lawful, the latest end is reached from limit to limit. No program stands here. -/
import Derived.Test.YtfafcicbfgdmcaaReachP
namespace Go.Proofs.Ytfafcicbfgdmcaa
set_option linter.unusedVariables false

theorem stageCode_mk {rules : List Stage} {hol : List Int} {c : Custody} {day : Int} (h1 : holidaysOk hol = true) (h2 : c.ok rules = true) (h3 : dayOk day = true) (h4 : c.done.length < rules.length) : stageCode rules hol c day = 0 := by
  unfold stageCode
  rw [h1, h2, h3]
  simp
  omega
theorem limitOf_mk {rules : List Stage} {hol : List Int} {c : Custody} (h : stageCode rules hol c 0 = 0) : limitOf rules hol c = (nextLimit rules hol c, 0) := by unfold limitOf; rw [if_pos h]
theorem code0 {rules : List Stage} {hol : List Int} {c : Custody} {day : Int} (h : stageCode rules hol c day = 0) : stageCode rules hol c 0 = 0 := by
  obtain ⟨h1, h2, h3, h4⟩ := stageCode_ok h
  exact stageCode_mk h1 h2 (by decide) h4
theorem lastCourt_mono (hol : List Int) (day : Int) {n m : Nat} (h : n ≤ m) : lastCourt hol day n ≤ lastCourt hol day m := by
  induction m with
  | zero => obtain rfl : n = 0 := by omega
            exact Int.le_refl _
  | succ m ih =>
    by_cases he : n = m + 1
    · rw [he]; exact Int.le_refl _
    · have h1 := ih (by omega)
      have h2 := lastCourt_bd hol day n
      rw [lastCourt.eq_2 hol day m]
      split <;> omega
theorem befAt_eq (s : Int) (d d' : List Int) (e e' : List Bool) : ∀ k, k ≤ d.length → (∀ i, i < d.length → d'[i]? = d[i]?) → (Custody.mk s d' e').befAt k = (Custody.mk s d e).befAt k
  | 0, _, _ => rfl
  | k + 1, hk, h => by simp only [Custody.befAt]; rw [h k (by omega)]
theorem extend_law {rules : List Stage} {hol : List Int} {c : Custody} {day : Int} (h : (extendStage rules hol c day).2 = 0) :
    (limitOf rules hol (extendStage rules hol c day).1).2 = 0 ∧ (limitOf rules hol c).1 ≤ (limitOf rules hol (extendStage rules hol c day).1).1 := by
  by_cases hc : stageCode rules hol c day = 0
  · by_cases hb : extendBad rules hol c day = true
    · rw [extend_bad hc hb] at h; simp at h
    · rw [extend_ok hc (by simpa using hb)]
      obtain ⟨h1, h2, h3, h4⟩ := stageCode_ok hc
      obtain ⟨p1, p2, p3, p4, p5⟩ := Custody.ok_parts h2
      have hok : Custody.ok rules ⟨c.start, c.done, c.ext.set c.done.length true⟩ = true := by
        simp only [Custody.ok, Bool.and_eq_true, decide_eq_true_eq, List.length_set]
        exact ⟨p1, p2, p3, p4, p5⟩
      have h0 : stageCode rules hol ⟨c.start, c.done, c.ext.set c.done.length true⟩ 0 = 0 := stageCode_mk h1 hok (by decide) h4
      rw [limitOf_mk h0, limitOf_mk (code0 hc)]
      refine ⟨rfl, ?_⟩
      simp only [nextLimit]
      have e0 : (Custody.mk c.start c.done (c.ext.set c.done.length true)).befAt c.done.length = c.befAt c.done.length := befAt_eq _ _ _ _ _ _ (Nat.le_refl _) (fun _ _ => rfl)
      rw [e0]
      have e1 : rules[c.done.length]? = some (rules[c.done.length]'h4) := List.getElem?_eq_getElem h4
      have e2 : c.ext[c.done.length]? = some (c.ext[c.done.length]'(by omega)) := List.getElem?_eq_getElem (by omega)
      have e3 : (c.ext.set c.done.length true)[c.done.length]? = some true := by rw [List.getElem?_set_self (by omega)]
      rw [limitAt_of e1 e2, limitAt_of e1 e3]
      apply lastCourt_mono
      have hf := stagesOk_fine p2 _ (List.mem_of_getElem? e1)
      obtain ⟨f1, f2, f3, f4⟩ := hf
      unfold spanOf
      cases c.ext[c.done.length]'(by omega) <;> simp <;> omega
  · rw [extend_code hc] at h; exact absurd h hc
theorem reach_grow {rules : List Stage} {hol : List Int} {c : Custody} {day : Int} (hc : stageCode rules hol c day = 0) (hb : reachBad rules hol c day = false) : Custody.ok rules ⟨c.start, c.done ++ [day], c.ext⟩ = true := by
  obtain ⟨h1, h2, h3, h4⟩ := stageCode_ok hc
  obtain ⟨p1, p2, p3, p4, p5⟩ := Custody.ok_parts h2
  simp only [reachBad, Bool.or_eq_false_iff, decide_eq_false_iff_not] at hb
  have hl := befAt_last c c.done.length (Nat.le_refl _)
  rw [List.take_length] at hl
  have hd : 0 ≤ day ∧ day ≤ 20000 := inR_iff.1 h3
  have hP : doneP c.start c.done day = true := by
    rw [doneP, hl]
    exact inR_true (by omega) (by omega)
  have hS : prefOk (doneP c.start) (c.done ++ [day]) = true := by
    have hpa : ∀ k, k ≤ c.done.length → prefAll (doneP c.start) (c.done ++ [day]) k = prefAll (doneP c.start) c.done k := by
      intro k
      induction k with
      | zero => intro _; rfl
      | succ k ih => intro hk; rw [prefAll, prefAll, ih (by omega), List.getElem?_append_left (by omega), List.take_append_of_le_length (by omega)]
    unfold prefOk
    rw [List.length_append, List.length_singleton, prefAll, hpa _ (Nat.le_refl _)]
    have : prefAll (doneP c.start) c.done c.done.length = true := p1
    rw [this]
    simp [hP]
  simp only [Custody.ok, Bool.and_eq_true, decide_eq_true_eq, List.length_append, List.length_singleton]
  exact ⟨hS, p2, p3, by omega, p5⟩
theorem reach_law {rules : List Stage} {hol : List Int} {c : Custody} {day : Int} (h : (reachStage rules hol c day).2 = 0) :
    isLawful rules hol (reachStage rules hol c day).1 = ((isLawful rules hol c).1, 0) ∧ (reachStage rules hol c day).1.done.length = c.done.length + 1 ∧ (reachStage rules hol c day).1.ok rules = true := by
  by_cases hc : stageCode rules hol c day = 0
  · by_cases hb : reachBad rules hol c day = true
    · rw [reach_bad hc hb] at h; simp at h
    · have hb' : reachBad rules hol c day = false := by simpa using hb
      rw [reach_ok hc hb']
      have hok := reach_grow hc hb'
      obtain ⟨h1, h2, h3, h4⟩ := stageCode_ok hc
      refine ⟨?_, by simp, hok⟩
      unfold isLawful
      rw [h1, h2, hok]
      simp only [Bool.and_self, if_true, List.length_append, List.length_singleton]
      congr 1
      have hbf : ∀ k, k ≤ c.done.length → (Custody.mk c.start (c.done ++ [day]) c.ext).befAt k = c.befAt k := fun k hk => befAt_eq _ _ _ _ _ k hk (fun i hi => List.getElem?_append_left hi)
      rw [List.range_succ, List.all_append]
      have hlast : lawAt rules hol ⟨c.start, c.done ++ [day], c.ext⟩ c.done.length = true := by
        simp only [lawAt, decide_eq_true_eq]
        rw [hbf _ (Nat.le_refl _)]
        simp only [reachBad, Bool.or_eq_false_iff, decide_eq_false_iff_not] at hb'
        have : (Custody.mk c.start (c.done ++ [day]) c.ext).befAt (c.done.length + 1) = day := by simp [Custody.befAt]
        rw [this]
        have : limitAt rules hol ⟨c.start, c.done ++ [day], c.ext⟩ c.done.length (c.befAt c.done.length) = nextLimit rules hol c := rfl
        rw [this]
        omega
      simp only [List.all_cons, List.all_nil, hlast, Bool.and_true]
      rw [Bool.eq_iff_iff, List.all_eq_true, List.all_eq_true]
      have hsame : ∀ k, k < c.done.length → lawAt rules hol ⟨c.start, c.done ++ [day], c.ext⟩ k = lawAt rules hol c k := by
        intro k hk
        simp only [lawAt]
        rw [hbf k (by omega), hbf (k + 1) (by omega)]
        rfl
      constructor
      · intro h k hk
        rw [← hsame k (List.mem_range.1 hk)]
        exact h k hk
      · intro h k hk
        rw [hsame k (List.mem_range.1 hk)]
        exact h k hk
  · rw [reach_code hc] at h; exact absurd h hc
/-- From limit to limit: what is reached behind j stages. -/
def latL (rules : List Stage) (hol : List Int) (c : Custody) (j : Nat) : List Int := (List.range j).map fun i => latTo rules hol c (i + 1)
def latC (rules : List Stage) (hol : List Int) (c : Custody) (j : Nat) : Custody := ⟨c.start, c.done ++ latL rules hol c j, c.ext⟩
theorem latL_len (rules : List Stage) (hol : List Int) (c : Custody) (j : Nat) : (latL rules hol c j).length = j := by simp [latL]
theorem latL_succ (rules : List Stage) (hol : List Int) (c : Custody) (j : Nat) : latL rules hol c (j + 1) = latL rules hol c j ++ [latTo rules hol c (j + 1)] := by simp [latL, List.range_succ]
theorem latC_len (rules : List Stage) (hol : List Int) (c : Custody) (j : Nat) : (latC rules hol c j).done.length = c.done.length + j := by simp [latC, latL_len]
theorem latC_zero (rules : List Stage) (hol : List Int) (c : Custody) : latC rules hol c 0 = c := by simp [latC, latL]
theorem latC_succ (rules : List Stage) (hol : List Int) (c : Custody) (j : Nat) : latC rules hol c (j + 1) = ⟨(latC rules hol c j).start, (latC rules hol c j).done ++ [latTo rules hol c (j + 1)], (latC rules hol c j).ext⟩ := by simp [latC, latL_succ]
theorem latC_bef (rules : List Stage) (hol : List Int) (c : Custody) : ∀ j, (latC rules hol c j).befAt (c.done.length + j) = latTo rules hol c j
  | 0 => by rw [latC_zero]; rfl
  | j + 1 => by
    have e : c.done.length + (j + 1) = (c.done.length + j) + 1 := by omega
    rw [e]
    simp only [Custody.befAt]
    rw [latC_succ]
    have := latC_len rules hol c j
    simp [← this]
theorem latC_next (rules : List Stage) (hol : List Int) (c : Custody) (j : Nat) : nextLimit rules hol (latC rules hol c j) = latTo rules hol c (j + 1) := by
  simp only [nextLimit, latTo]
  rw [latC_len, latC_bef]
  rfl
/-- One step: the limit, then the stage reached, or a day beyond the last one. -/
theorem latC_limit {rules : List Stage} {hol : List Int} {c : Custody} {j : Nat} (h1 : holidaysOk hol = true) (hok : (latC rules hol c j).ok rules = true) (hj : c.done.length + j < rules.length) :
    limitOf rules hol (latC rules hol c j) = (latTo rules hol c (j + 1), 0) := by
  rw [limitOf_mk (stageCode_mk h1 hok (by decide) (by rw [latC_len]; exact hj)), latC_next]
theorem latC_step {rules : List Stage} {hol : List Int} {c : Custody} {j : Nat} (h1 : holidaysOk hol = true) (hok : (latC rules hol c j).ok rules = true) (hj : c.done.length + j < rules.length) :
    (reachStage rules hol (latC rules hol c j) (latTo rules hol c (j + 1))).2 = 2 ∨ reachStage rules hol (latC rules hol c j) (latTo rules hol c (j + 1)) = (latC rules hol c (j + 1), 0) ∧ (latC rules hol c (j + 1)).ok rules = true := by
  cases hd : dayOk (latTo rules hol c (j + 1)) with
  | false =>
    left
    have : stageCode rules hol (latC rules hol c j) (latTo rules hol c (j + 1)) = 2 := by unfold stageCode; rw [h1, hok, hd]; simp
    rw [reach_code (by rw [this]; simp), this]
  | true =>
    right
    have hc := stageCode_mk (day := latTo rules hol c (j + 1)) h1 hok hd (by rw [latC_len]; exact hj)
    have hb : reachBad rules hol (latC rules hol c j) (latTo rules hol c (j + 1)) = false := by
      simp only [reachBad, Bool.or_eq_false_iff, decide_eq_false_iff_not]
      rw [latC_next, latC_len, latC_bef]
      have := limitAt_bd (hol := hol) (day := latTo rules hol c j) hok hj
      have e : limitAt rules hol (latC rules hol c j) (c.done.length + j) (latTo rules hol c j) = latTo rules hol c (j + 1) := rfl
      rw [e] at this
      omega
    rw [reach_ok hc hb, latC_succ]
    exact ⟨rfl, reach_grow hc hb⟩
theorem daysLeft_law {rules : List Stage} {hol : List Int} {c : Custody} {day : Int} (h : (daysLeft rules hol c day).2 = 0) : (limitOf rules hol c).2 = 0 ∧ day + (daysLeft rules hol c day).1 = (limitOf rules hol c).1 := by
  by_cases hc : stageCode rules hol c day = 0
  · rw [limitOf_mk (code0 hc)]
    simp only [daysLeft, if_pos hc]
    exact ⟨trivial, by omega⟩
  · simp only [daysLeft, if_neg hc] at h; exact absurd h hc
theorem latestEnd_law {rules : List Stage} {hol : List Int} {c : Custody} (h : (latestEnd rules hol c).2 = 0) : holidaysOk hol = true ∧ c.ok rules = true ∧ c.done.length < rules.length ∧ (latestEnd rules hol c).1 = latTo rules hol c (rules.length - c.done.length) := by
  by_cases hc : stageCode rules hol c 0 = 0
  · obtain ⟨h1, h2, h3, h4⟩ := stageCode_ok hc
    exact ⟨h1, h2, h4, by simp only [latestEnd, if_pos hc]⟩
  · simp only [latestEnd, if_neg hc] at h; exact absurd h hc
end Go.Proofs.Ytfafcicbfgdmcaa
