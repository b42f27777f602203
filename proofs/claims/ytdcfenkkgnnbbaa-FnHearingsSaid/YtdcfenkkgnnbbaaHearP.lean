/- The plain law of the hearings: clashes are symmetric, a plan has no clashes and its bookings keep no room twice. No program stands here. -/
import Derived.Test.YtdcfenkkgnnbbaaBookingW
import Derived.Test.YtdcfenkkgnnbbaaPlanB
import Derived.Test.YtdcfenkkgnnbbaaClRows
namespace Go.Proofs.Ytdcfenkkgnnbbaa
open Go.RowKit
set_option linter.unusedVariables false

theorem clash_back (a : Hearing) (s : Slot) (b : Hearing) (t : Slot) : doClash b t a s = doClash a s b t := by
  unfold doClash
  rw [clashB_sym b t a s]
  cases a.ok <;> cases s.ok <;> cases b.ok <;> cases t.ok <;> rfl
theorem isPlan_book {xs : List Hearing} {ps : List Slot} (h : (isPlan xs ps).2 = 0) : (isPlan xs ps).1 = decide ((bookPlan xs ps).2 = 0) := by
  unfold isPlan at h ⊢
  unfold bookPlan
  split at h
  · rename_i h1
    rw [if_pos h1, if_pos h1]
    cases hp : planB xs ps <;> simp
  · simp at h
theorem isPlan_none {xs : List Hearing} {ps : List Slot} (h : (isPlan xs ps).1 = true) : (clashesOf xs ps).1.length = 0 := by
  unfold isPlan at h
  split at h
  · rename_i h1
    have hl := planB_lens h
    rw [clashesOf_ok h1 hl]
    simp only [planB, Bool.and_eq_true] at h
    simp only [clTab, List.length_map]
    rw [clList_nil]
    intro i hi k hk
    have h2 := (List.all_eq_true.1 h.2) i (List.mem_range.2 hi)
    simp only [planAt, Bool.and_eq_true] at h2
    have := (List.all_eq_true.1 h2.2) k (List.mem_range.2 hk)
    simpa using this
  · simp at h
theorem prefOk_each {α : Type} {p : List α → α → Bool} {xs : List α} (h : ∀ k x, xs[k]? = some x → p (xs.take k) x = true) : prefOk p xs = true := by
  have : ∀ k, k ≤ xs.length → prefAll p xs k = true := by
    intro k
    induction k with
    | zero => intro _; rfl
    | succ k ih =>
      intro hk
      have hx : xs[k]? = some (xs[k]'(by omega)) := List.getElem?_eq_getElem (by omega)
      rw [prefAll, ih (by omega), hx]
      simpa using h k _ hx
  exact this xs.length (Nat.le_refl _)
theorem bookOf_ok {a : Hearing} {s : Slot} (ha : a.ok = true) (hs : s.ok = true) (hf : fitB a s = true) : (bookOf a s).ok = true := by
  have h1 := Hearing.ok_bounds ha
  have h2 := Slot.ok_bounds hs
  have h3 : wordOk a.code = true := by simp only [Hearing.ok, Bool.and_eq_true] at ha; exact ha.2.1
  simp only [fitB, Bool.and_eq_true, decide_eq_true_eq] at hf
  have hr : roomOk s.room = true := inR_true (by omega) (by omega)
  have hd : dayOk s.day = true := inR_true (by omega) (by omega)
  have ht : timeOk s.frm (s.frm + a.len) = true := by simp [timeOk]; omega
  simp [Booking.ok, bookOf, hr, hd, ht, h3]
theorem bookPlan_ok {xs : List Hearing} {ps : List Slot} (h : (bookPlan xs ps).2 = 0) : bookingsOk (bookPlan xs ps).1 = true := by
  unfold bookPlan at h ⊢
  split at h
  · rename_i h1
    rw [if_pos h1]
    rw [Bool.and_eq_true] at h1
    split at h
    · rename_i hp
      rw [if_pos hp]
      have hl := planB_lens hp
      have h5 := hearingsOk_len h1.1
      simp only [bookingsOk, Bool.and_eq_true, decide_eq_true_eq]
      refine ⟨prefOk_each fun k y hy => ?_, by rw [bookL_len hl]; omega⟩
      simp only [planB, Bool.and_eq_true] at hp
      unfold bookL at hy
      rw [List.getElem?_zipWith] at hy
      cases hx : xs[k]? with
      | none => rw [hx] at hy; cases hps : ps[k]? <;> simp [hps] at hy
      | some a =>
        cases hps : ps[k]? with
        | none => rw [hx, hps] at hy; simp at hy
        | some s =>
          rw [hx, hps] at hy
          simp at hy
          subst hy
          have hk : k < xs.length := (List.getElem?_eq_some_iff.1 hx).1
          have h2 := (List.all_eq_true.1 hp.2) k (List.mem_range.2 hk)
          simp only [planAt, Bool.and_eq_true] at h2
          rw [fitAt_of hx hps] at h2
          have hao := hearingsOk_all h1.1 a (List.mem_of_getElem? hx)
          have hso := slotsOk_all h1.2 s (List.mem_of_getElem? hps)
          simp only [bookPref, Bool.and_eq_true]
          refine ⟨bookOf_ok hao hso h2.1, ?_⟩
          simp only [freeB, Bool.not_eq_true', List.any_eq_false]
          intro c hc
          obtain ⟨j, hj⟩ := List.getElem?_of_mem hc
          unfold bookL at hj
          rw [List.getElem?_take] at hj
          split at hj
          · rename_i hjk
            rw [List.getElem?_zipWith] at hj
            cases hxj : xs[j]? with
            | none => rw [hxj] at hj; cases hpj : ps[j]? <;> simp [hpj] at hj
            | some b =>
              cases hpj : ps[j]? with
              | none => rw [hxj, hpj] at hj; simp at hj
              | some t =>
                rw [hxj, hpj] at hj
                simp at hj
                subst hj
                have h3 := (List.all_eq_true.1 h2.2) j (List.mem_range.2 hjk)
                rw [clAt_of hx hps hxj hpj] at h3
                simp only [clashB] at h3
                simp only [meetB, bookOf, Bool.and_eq_true, beq_iff_eq]
                rintro ⟨e1, e2, e3, e4⟩
                have e3' := of_decide_eq_true e3
                have e4' := of_decide_eq_true e4
                simp [e1, e2] at h3
                omega
          · cases hj
    · simp at h
  · simp at h
theorem shared_mem {a b : Hearing} {x : ByteArray} (h : x ∈ (sharedPeople a b).1) : x ∈ a.people ∧ x ∈ b.people := by
  unfold sharedPeople at h
  split at h
  · have := (sortW_perm _).mem_iff.1 h
    unfold sharedL at this
    rw [List.mem_filter, hasW_mem] at this
    exact this
  · simp at h
end Go.Proofs.Ytdcfenkkgnnbbaa
