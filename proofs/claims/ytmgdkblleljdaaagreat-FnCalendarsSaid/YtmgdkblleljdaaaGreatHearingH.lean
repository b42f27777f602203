/- Hearing: copies, comparison, size, as walks. Written by a program (gen_nest.py). -/
import Derived.Test.YtmgdkblleljdaaaGreatRows
import Derived.Test.YtmgdkblleljdaaaGreatMem4
import Derived.Test.YtmgdkblleljdaaaGreatStrsH
import Derived.StillTailTactics
import Derived.Deep.RegionHeld3
namespace Go.Proofs.YtmgdkblleljdaaaGreat
open Go.RowKit
set_option linter.unusedVariables false

structure Hearing where
  code : ByteArray
  len : Int
  people : List ByteArray
  last : Int
/-- With the slices' headers. -/
structure HearingR where
  h : Hearing
  p0 : Value
def HearingR.enc (r : HearingR) : List Value := [.string r.h.code, .int .i64 r.h.len, r.p0, .int .i64 r.h.last]
def RdHearing (w : World) (lo hi : Nat) (v : Value) (xs : List Hearing) : Prop := ∃ rs : List HearingR, rs.map HearingR.h = xs ∧ RdF HearingR.enc 4 w lo hi v rs ∧ ∀ r ∈ rs, RdF encStr 1 w lo hi r.p0 r.h.people
def RdWHearing (w : World) (lo hi : Nat) (v : Value) (xs : List Hearing) : Prop := ∃ rs : List HearingR, rs.map HearingR.h = xs ∧ RdW HearingR.enc 4 56 w lo hi v rs ∧ ∀ r ∈ rs, RdW encStr 1 9 w lo hi r.p0 r.h.people
theorem RdWHearing.rd {w : World} {lo hi : Nat} {v : Value} {xs : List Hearing} (h : RdWHearing w lo hi v xs) : RdHearing w lo hi v xs := by
  obtain ⟨rs, h1, h2, h3⟩ := h
  exact ⟨rs, h1, h2.rd, fun r hr => by obtain a0 := h3 r hr; exact a0.rd⟩
theorem RdHearing.below {w w' : World} {lo hi B : Nat} {v : Value} {xs : List Hearing} (h : RdHearing w lo hi v xs) (hb : Below B w w') (hB : hi ≤ B) : RdHearing w' lo hi v xs := by
  obtain ⟨rs, h1, h2, h3⟩ := h
  exact ⟨rs, h1, h2.below hb hB, fun r hr => by obtain a0 := h3 r hr; exact a0.below hb hB⟩
theorem RdHearing.chg {w w' : World} {lo hi lo' hi' : Nat} {v : Value} {xs : List Hearing} (h : RdHearing w lo hi v xs) (hc : Chg lo' hi' w w') (hs : hi ≤ w.heap.size) (hd : hi ≤ lo' ∨ hi' ≤ lo) : RdHearing w' lo hi v xs := by
  obtain ⟨rs, h1, h2, h3⟩ := h
  exact ⟨rs, h1, h2.chg hc hs hd, fun r hr => by obtain a0 := h3 r hr; exact a0.chg hc hs hd⟩
theorem RdHearing.wide {w : World} {lo hi lo' hi' : Nat} {v : Value} {xs : List Hearing} (h : RdHearing w lo hi v xs) (hl : lo' ≤ lo) (hh : hi ≤ hi') : RdHearing w lo' hi' v xs := by
  obtain ⟨rs, h1, h2, h3⟩ := h
  exact ⟨rs, h1, h2.wide hl hh, fun r hr => by obtain a0 := h3 r hr; exact a0.wide hl hh⟩
theorem RdWHearing.below {w w' : World} {lo hi B : Nat} {v : Value} {xs : List Hearing} (h : RdWHearing w lo hi v xs) (hb : Below B w w') (hB : hi ≤ B) : RdWHearing w' lo hi v xs := by
  obtain ⟨rs, h1, h2, h3⟩ := h
  exact ⟨rs, h1, h2.below hb hB, fun r hr => by obtain a0 := h3 r hr; exact a0.below hb hB⟩
theorem RdWHearing.chg {w w' : World} {lo hi lo' hi' : Nat} {v : Value} {xs : List Hearing} (h : RdWHearing w lo hi v xs) (hc : Chg lo' hi' w w') (hs : hi ≤ w.heap.size) (hd : hi ≤ lo' ∨ hi' ≤ lo) : RdWHearing w' lo hi v xs := by
  obtain ⟨rs, h1, h2, h3⟩ := h
  exact ⟨rs, h1, h2.chg hc hs hd, fun r hr => by obtain a0 := h3 r hr; exact a0.chg hc hs hd⟩
theorem RdWHearing.wide {w : World} {lo hi lo' hi' : Nat} {v : Value} {xs : List Hearing} (h : RdWHearing w lo hi v xs) (hl : lo' ≤ lo) (hh : hi ≤ hi') : RdWHearing w lo' hi' v xs := by
  obtain ⟨rs, h1, h2, h3⟩ := h
  exact ⟨rs, h1, h2.wide hl hh, fun r hr => by obtain a0 := h3 r hr; exact a0.wide hl hh⟩
def Hearing.beq (s t : Hearing) : Bool := ((s.code.toList == t.code.toList) && ((s.len == t.len) && (eqL strEq s.people t.people && (s.last == t.last))))
theorem Hearing.beq_iff (s t : Hearing) : Hearing.beq s t = true ↔ s = t := by
  obtain ⟨a0, a1, a2, a3⟩ := s; obtain ⟨b0, b1, b2, b3⟩ := t
  simp [Hearing.beq, toList_inj, eqL_iff strEq_iff]
theorem Hearing.beq_refl (s : Hearing) : Hearing.beq s s = true := (Hearing.beq_iff s s).2 rfl
theorem Hearing.eqL_refl (xs : List Hearing) : eqL Hearing.beq xs xs = true := (eqL_iff Hearing.beq_iff).2 rfl
def Hearing.by_ (l : Int) (s : Hearing) : Prop := s.code.size ≤ l ∧ s.people.length ≤ l ∧ (∀ y ∈ s.people, y.size ≤ l)
def Hearing.small (s : Hearing) : Prop := Hearing.by_ 1048576 s
def Hearing.big (s : Hearing) : Prop := Hearing.by_ 9223372036854775807 s
theorem Hearing.by_up {l l' : Int} {s : Hearing} (h : Hearing.by_ l s) (hl : l ≤ l') : Hearing.by_ l' s := by
  obtain ⟨b0, b1, b2⟩ := h
  exact ⟨by omega, by omega, fun y hy => by have := b2 y hy; omega⟩
theorem Hearing.small_of {l : Int} {s : Hearing} (h : Hearing.by_ l s) (hl : l ≤ 1048576) : Hearing.small s := Hearing.by_up h hl
theorem Hearing.small.big {s : Hearing} (h : Hearing.small s) : Hearing.big s := Hearing.by_up h (by omega)
theorem Hearing.by_.len0 {l : Int} {s : Hearing} (h : Hearing.by_ l s) : s.people.length ≤ l := by
  obtain ⟨b0, b1, b2⟩ := h
  assumption
theorem Hearing.small.len0 {s : Hearing} (h : Hearing.small s) : s.people.length ≤ 1048576 := by have := Hearing.by_.len0 h; omega
def Hearing.wt (s : Hearing) : Nat := s.people.length
def Hearing.wts (xs : List Hearing) : Nat := (xs.map Hearing.wt).sum
theorem Hearing.wts_succ {xs : List Hearing} {k : Nat} {x : Hearing} (h : xs[k]? = some x) : Hearing.wts (xs.take (k + 1)) = Hearing.wts (xs.take k) + x.wt := by simp [Hearing.wts, List.take_add_one, h]
def Hearing.Sz (l : Int) (s : Hearing) (r : Int) : Prop := r ≤ l ∧ (0 ≤ r → Hearing.by_ l s ∧ r + (s.wt : Int) ≤ l)
def Hearing.SzS (l : Int) (xs : List Hearing) (r : Int) : Prop := r ≤ l ∧ (0 ≤ r → xs.length ≤ l ∧ (∀ x ∈ xs, Hearing.by_ l x) ∧ (Hearing.wts xs : Int) ≤ l)
def Hearing.To (s : Hearing) (w : World) (e : Ending) (w' : World) : Prop := ∃ p0 : Value, e = .returned (.agg #[.string s.code, .int .i64 s.len, p0, .int .i64 s.last]) ∧ RdW encStr 1 9 w' w.heap.size w'.heap.size p0 s.people ∧ Below w.heap.size w w'




theorem RdHearing.at {w w' : World} {lo hi B : Nat} {A : Option Addr} {n c : Nat} {rs : List HearingR} {k : Nat} (h : RdF HearingR.enc 4 w lo hi (.slice A n c) rs) (hb : Below B w w') (hB : hi ≤ B) (hk : k < rs.length) :
    ∃ (r : HearingR) (b off : Nat), Hid (rs[k]? = some r) ∧ A = some ⟨b, off, none⟩ ∧ lo ≤ b ∧ b < hi ∧ w'.cell? ⟨b, off + k * 4, none⟩ = some (.string r.h.code) ∧ w'.cell? ⟨b, off + k * 4 + 1, none⟩ = some (.int .i64 r.h.len) ∧ w'.cell? ⟨b, off + k * 4 + 2, none⟩ = some (r.p0) ∧ w'.cell? ⟨b, off + k * 4 + 3, none⟩ = some (.int .i64 r.h.last) := by
  obtain ⟨r, b, off, h1, h2, h3, h4, h5⟩ := h.get hb hB hk
  exact ⟨r, b, off, h1, h2, h3, h4, h5 0 _ rfl, h5 1 _ rfl, h5 2 _ rfl, h5 3 _ rfl⟩



end Go.Proofs.YtmgdkblleljdaaaGreat
