/- ReachStage, ExtendStage: plain. -/
import Derived.Test.YtfafcicbfgdmcaaReachW
import Derived.Deep.Cut
import Derived.Deep.DeepCutAuto
namespace Go.Proofs.Ytfafcicbfgdmcaa
open Go.RowKit
set_option linter.unusedVariables false

def noCust : Custody := ⟨0, [], []⟩
def reachBad (rules : List Stage) (hol : List Int) (c : Custody) (day : Int) : Bool := decide (day < c.befAt c.done.length) || decide (nextLimit rules hol c < day)
def reachStage (rules : List Stage) (hol : List Int) (c : Custody) (day : Int) : Custody × Int :=
  if stageCode rules hol c day = 0 then (if reachBad rules hol c day then (noCust, 5) else (⟨c.start, c.done ++ [day], c.ext⟩, 0)) else (noCust, stageCode rules hol c day)
def extAt (c : Custody) : Bool := (c.ext[c.done.length]?).getD false
def moreAt (rules : List Stage) (c : Custody) : Int := match rules[c.done.length]? with
  | some s => s.more
  | none => 0
def extendBad (rules : List Stage) (hol : List Int) (c : Custody) (day : Int) : Bool := extAt c || (decide (moreAt rules c = 0) || decide (nextLimit rules hol c < day))
def extendStage (rules : List Stage) (hol : List Int) (c : Custody) (day : Int) : Custody × Int :=
  if stageCode rules hol c day = 0 then (if extendBad rules hol c day then (noCust, 5) else (⟨c.start, c.done, c.ext.set c.done.length true⟩, 0)) else (noCust, stageCode rules hol c day)
theorem reach_code {rules : List Stage} {hol : List Int} {c : Custody} {day : Int} (h : ¬ stageCode rules hol c day = 0) : reachStage rules hol c day = (noCust, stageCode rules hol c day) := by rw [reachStage, if_neg h]
theorem reach_bad {rules : List Stage} {hol : List Int} {c : Custody} {day : Int} (h : stageCode rules hol c day = 0) (hb : reachBad rules hol c day = true) : reachStage rules hol c day = (noCust, 5) := by rw [reachStage, if_pos h, if_pos hb]
theorem reach_ok {rules : List Stage} {hol : List Int} {c : Custody} {day : Int} (h : stageCode rules hol c day = 0) (hb : reachBad rules hol c day = false) : reachStage rules hol c day = (⟨c.start, c.done ++ [day], c.ext⟩, 0) := by rw [reachStage, if_pos h, if_neg (by rw [hb]; simp)]
theorem extend_code {rules : List Stage} {hol : List Int} {c : Custody} {day : Int} (h : ¬ stageCode rules hol c day = 0) : extendStage rules hol c day = (noCust, stageCode rules hol c day) := by rw [extendStage, if_neg h]
theorem extend_bad {rules : List Stage} {hol : List Int} {c : Custody} {day : Int} (h : stageCode rules hol c day = 0) (hb : extendBad rules hol c day = true) : extendStage rules hol c day = (noCust, 5) := by rw [extendStage, if_pos h, if_pos hb]
theorem extend_ok {rules : List Stage} {hol : List Int} {c : Custody} {day : Int} (h : stageCode rules hol c day = 0) (hb : extendBad rules hol c day = false) : extendStage rules hol c day = (⟨c.start, c.done, c.ext.set c.done.length true⟩, 0) := by rw [extendStage, if_pos h, if_neg (by rw [hb]; simp)]
theorem noCust_small : noCust.small := by unfold Custody.small Custody.by_ noCust; simp
theorem reach_small {rules : List Stage} {hol : List Int} {c : Custody} {day : Int} (hs : c.small) : (reachStage rules hol c day).1.small := by
  unfold reachStage
  split
  · next h =>
    split
    · exact noCust_small
    · have hk := stageCode_ok h
      have h5 := Custody.ok_parts hk.2.1
      have h6 := stagesOk_len h5.2.1
      unfold Custody.small Custody.by_
      simp only [List.length_append, List.length_cons, List.length_nil]
      refine ⟨by omega, by omega⟩
  · exact noCust_small
theorem extend_small {rules : List Stage} {hol : List Int} {c : Custody} {day : Int} (hs : c.small) : (extendStage rules hol c day).1.small := by
  unfold extendStage
  split
  · split
    · exact noCust_small
    · unfold Custody.small Custody.by_ at *
      simp only [List.length_set]
      exact hs
  · exact noCust_small
/-- A custody as a result, with a code. -/
def RetCust (r : Custody × Int) (w : World) (e : Ending) (w' : World) : Prop := ∃ p0 p1 : Value, e = .returned (.tuple #[.agg #[.int .i64 r.1.start, p0, p1], .int .i64 r.2]) ∧ RdW encInt 1 2 w' w.heap.size w'.heap.size p0 r.1.done ∧ RdW encBool 1 4 w' w.heap.size w'.heap.size p1 r.1.ext ∧ Below w.heap.size w w'
/-- What a statement leaves that keeps such a result in a variable of its own. -/
def CutC (r : Custody × Int) (w : World) (s1 s2 : Value) (wx : World) : Prop := ∃ (g : Nat) (A0 A1 : Option Addr) (C0 C1 : Nat), s1 = .pointer (some ⟨g, 0, none⟩) ∧ s2 = .int .i64 r.2 ∧ w.heap.size ≤ g ∧ g < wx.heap.size ∧ Blk wx g 28 #[.int .i64 r.1.start, .slice A0 r.1.done.length C0, .slice A1 r.1.ext.length C1] ∧ RdW encInt 1 2 wx w.heap.size wx.heap.size (.slice A0 r.1.done.length C0) r.1.done ∧ RdW encBool 1 4 wx w.heap.size wx.heap.size (.slice A1 r.1.ext.length C1) r.1.ext ∧ Below w.heap.size w wx
theorem CutC.late {r : Custody × Int} {w w7 : World} {A0 A1 : Option Addr} {C0 C1 : Nat} (h0 : RdW encInt 1 2 w7 w.heap.size w7.heap.size (.slice A0 r.1.done.length C0) r.1.done) (h1 : RdW encBool 1 4 w7 w.heap.size w7.heap.size (.slice A1 r.1.ext.length C1) r.1.ext) (hb : Below w.heap.size w w7) :
    CutC r w (.pointer (some ⟨w7.heap.size, 0, none⟩)) (.int .i64 r.2) (w7.alloc (.cells #[.int .i64 r.1.start, .slice A0 r.1.done.length C0, .slice A1 r.1.ext.length C1] 28)) := by
  have hz := hb.size
  have h2 : Below w7.heap.size w7 (w7.alloc (.cells #[.int .i64 r.1.start, .slice A0 r.1.done.length C0, .slice A1 r.1.ext.length C1] 28)) := (Below.refl _ _).alloc (Nat.le_refl _) _
  exact ⟨w7.heap.size, A0, A1, C0, C1, rfl, rfl, hz, by simp, Blk.newAt rfl, (h0.below h2 (Nat.le_refl _)).wide (Nat.le_refl _) h2.size, (h1.below h2 (Nat.le_refl _)).wide (Nat.le_refl _) h2.size, hb.alloc hz _⟩
theorem CutC.early {r : Custody × Int} {w w7 : World} {g : Nat} {A0 A1 : Option Addr} {C0 C1 : Nat} (hg : w.heap.size ≤ g) (hk : Blk w7 g 28 #[.int .i64 0, .slice none 0 0, .slice none 0 0]) (h0 : RdW encInt 1 2 w7 w.heap.size w7.heap.size (.slice A0 r.1.done.length C0) r.1.done) (h1 : RdW encBool 1 4 w7 w.heap.size w7.heap.size (.slice A1 r.1.ext.length C1) r.1.ext) (hb : Below w.heap.size w w7) :
    CutC r w (.pointer (some ⟨g, 0, none⟩)) (.int .i64 r.2) (((w7.setCell ⟨g, 0, none⟩ (.int .i64 r.1.start)).setCell ⟨g, 1, none⟩ (.slice A0 r.1.done.length C0)).setCell ⟨g, 2, none⟩ (.slice A1 r.1.ext.length C1)) := by
  have hz := hb.size
  have hs : (((w7.setCell ⟨g, 0, none⟩ (.int .i64 r.1.start)).setCell ⟨g, 1, none⟩ (.slice A0 r.1.done.length C0)).setCell ⟨g, 2, none⟩ (.slice A1 r.1.ext.length C1)).heap.size = w7.heap.size := by simp [World.setCell]
  refine ⟨g, A0, A1, C0, C1, rfl, rfl, hg, by rw [hs]; exact hk.lt, hk.set3 0 _ _ _, ?_, ?_, ((hb.setCell (p := ⟨g, 0, none⟩) hg _).setCell (p := ⟨g, 1, none⟩) hg _).setCell (p := ⟨g, 2, none⟩) hg _⟩
  · exact (h0.mono_blk (fun g' ar hb => by
      have m := hb.ne hk (by decide)
      exact ((hb.far (p := ⟨g, 0, none⟩) m _).far (p := ⟨g, 1, none⟩) m _).far (p := ⟨g, 2, none⟩) m _)).wide (Nat.le_refl _) (by rw [hs]; exact Nat.le_refl _)
  · exact (h1.mono_blk (fun g' ar hb => by
      have m := hb.ne hk (by decide)
      exact ((hb.far (p := ⟨g, 0, none⟩) m _).far (p := ⟨g, 1, none⟩) m _).far (p := ⟨g, 2, none⟩) m _)).wide (Nat.le_refl _) (by rw [hs]; exact Nat.le_refl _)
theorem RdW.setT {α : Type} {enc : α → List Value} {sz : Nat} {t t' : TypeId} {w : World} {lo hi g i : Nat} {v : Value} {xs : List α} {cs : Array Value} (h : RdW enc sz t w lo hi v xs) (hk : Blk w g t' cs) (hne : t ≠ t') (u : Value) : RdW enc sz t (w.setCell ⟨g, i, none⟩ u) lo hi v xs :=
  h.mono_blk fun g' ar hb => hb.far (p := ⟨g, i, none⟩) (hb.ne hk hne) u
theorem RdW.setB {w : World} {lo hi k n c : Nat} {A : Option Addr} {out : List Bool} (h : RdW encBool 1 4 w lo hi (.slice A n c) out) (hk : k < out.length) :
    ∃ g : Nat, A = some ⟨g, 0, none⟩ ∧ lo ≤ g ∧ g < hi ∧ (∃ ar, Blk w g 4 ar) ∧ (∃ u, w.cell? ⟨g, k, none⟩ = some u) ∧ w.frozen? ⟨g, k, none⟩ = false ∧ ∀ y : Bool, RdW encBool 1 4 (w.setCell ⟨g, k, none⟩ (.bool y)) lo hi (.slice A n c) (out.set k y) := by
  obtain ⟨A', c', hv, hc, hA⟩ := h
  injection hv with h1 h2 h3
  subst h1 h3
  obtain ⟨g, arr, hg, g1, g2, hb, hs, hr⟩ := hA (by omega)
  subst hg
  refine ⟨g, rfl, g1, g2, ⟨arr, hb⟩, hb.some_ k (by omega), hb.frozen k, fun y => ?_⟩
  · refine ⟨_, c, by rw [List.length_set, h2], by rw [List.length_set]; exact hc, fun _ => ⟨g, _, rfl, g1, g2, hb.set_ k _, by simpa using hs, ?_⟩⟩
    intro i x hi hx j u hu
    rw [List.length_set] at hi
    have hj : j = 0 := by
      have := (List.getElem?_eq_some_iff.1 hu).1
      simpa [encBool] using this
    subst hj
    rw [List.getElem?_set] at hx
    by_cases hik : k = i
    · subst hik
      simp [hk] at hx
      subst hx
      simp [encBool] at hu
      subst hu
      simp only [Nat.mul_one, Nat.add_zero]
      rw [Array.getElem?_setIfInBounds_self, if_pos (by omega)]
    · rw [if_neg hik] at hx
      have := hr i x hi hx 0 u hu
      simp only [Nat.mul_one, Nat.add_zero] at this ⊢
      rw [Array.getElem?_setIfInBounds_ne hik]
      exact this
end Go.Proofs.Ytfafcicbfgdmcaa
