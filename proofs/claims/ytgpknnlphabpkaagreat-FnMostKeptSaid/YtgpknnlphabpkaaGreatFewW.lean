/- Walks: the most hearings for which there is a calendar. Written by a program (gen_held.py). -/
import Derived.Test.YtgpknnlphabpkaaGreatBestW
import Derived.Test.YtgpknnlphabpkaaGreatLessW
namespace Go.Proofs.YtgpknnlphabpkaaGreat
open Go.RowKit
set_option linter.unusedVariables false

/-- The rows with some indices. -/
def rowsAt (rs : List HearingR) (s : List Int) : List HearingR := s.filterMap fun i => rs[i.toNat]?
theorem rowsAt_step {rs : List HearingR} {s : List Int} {k : Nat} {i : Int} {h : HearingR} (h1 : s[k]? = some i) (h2 : rs[i.toNat]? = some h) : rowsAt rs (s.take (k + 1)) = rowsAt rs (s.take k) ++ [h] := by
  unfold rowsAt
  rw [List.take_add_one, h1, List.filterMap_append]
  simp [h2]
theorem rowsAt_len (rs : List HearingR) (s : List Int) : (rowsAt rs s).length ≤ s.length := List.length_filterMap_le _ _
theorem rowsAt_mem {rs : List HearingR} {s : List Int} {h : HearingR} (hm : h ∈ rowsAt rs s) : h ∈ rs := by
  unfold rowsAt at hm
  rw [List.mem_filterMap] at hm
  obtain ⟨i, -, hi⟩ := hm
  exact List.mem_of_getElem? hi
theorem rowsAt_map (rs : List HearingR) (s : List Int) : (rowsAt rs s).map HearingR.h = heldAt (rs.map HearingR.h) s := by
  unfold rowsAt heldAt
  rw [List.map_filterMap]
  congr 1
  funext i
  simp
theorem HearingR.one {r : HearingR} {P : Option Addr} {n c : Nat} (h : r.p0 = .slice P n c) : ∀ u ∈ HearingR.enc r, u.oneCell' = true := by
  intro u hu
  simp [HearingR.enc, h] at hu
  rcases hu with rfl | rfl | rfl | rfl <;> rfl
theorem heldAt_ok {xs : List Hearing} {s : List Int} {p : Hearing → Prop} (h : ∀ x ∈ xs, p x) : ∀ x ∈ heldAt xs s, p x := fun x hx => h x (heldAt_mem hx)
theorem held_rd {w : World} {base lo hi : Nat} {v : Value} {rs : List HearingR} {s : List Int} (ho : OwnL HearingR.enc 4 76 w base v (rowsAt rs s)) (hP : ∀ r ∈ rs, RdF encStr 1 w lo hi r.p0 r.h.people) (hh : hi ≤ w.heap.size) : RdHearing w 0 w.heap.size v (heldAt (rs.map HearingR.h) s) :=
  ⟨rowsAt rs s, rowsAt_map rs s, ((ho.rdw (fun _ => rfl)).rd).wide (Nat.zero_le _) (Nat.le_refl _), fun r hr => (hP r (rowsAt_mem hr)).wide (Nat.zero_le _) hh⟩

def FewV (r : Option (List Int)) (lo : Nat) (w : World) (e : Ending) (w' : World) : Prop := ∃ v : Value, e = .returned (.tuple #[v, .bool r.isSome]) ∧ (∀ s, r = some s → RdW encInt 1 2 w' lo w'.heap.size v s) ∧ Below w.heap.size w w'
end Go.Proofs.YtgpknnlphabpkaaGreat
