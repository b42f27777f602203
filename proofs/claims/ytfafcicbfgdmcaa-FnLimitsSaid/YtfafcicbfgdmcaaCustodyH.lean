/- Custody: copies, comparison, size, as walks. Written by a program (gen_nest.py). -/
import Derived.Test.YtfafcicbfgdmcaaRows
import Derived.Test.YtfafcicbfgdmcaaMem4
import Derived.Test.YtfafcicbfgdmcaaBoolsH
import Derived.Test.YtfafcicbfgdmcaaInts2H
import Derived.StillTailTactics
import Derived.Deep.RegionHeld3
namespace Go.Proofs.Ytfafcicbfgdmcaa
open Go.RowKit
set_option linter.unusedVariables false

structure Custody where
  start : Int
  done : List Int
  ext : List Bool
/-- With the slices' headers. -/
structure CustodyR where
  h : Custody
  p0 : Value
  p1 : Value
def CustodyR.enc (r : CustodyR) : List Value := [.int .i64 r.h.start, r.p0, r.p1]
def RdCustody (w : World) (lo hi : Nat) (v : Value) (xs : List Custody) : Prop := ∃ rs : List CustodyR, rs.map CustodyR.h = xs ∧ RdF CustodyR.enc 3 w lo hi v rs ∧ ∀ r ∈ rs, RdF encInt 1 w lo hi r.p0 r.h.done ∧ RdF encBool 1 w lo hi r.p1 r.h.ext
def RdWCustody (w : World) (lo hi : Nat) (v : Value) (xs : List Custody) : Prop := ∃ rs : List CustodyR, rs.map CustodyR.h = xs ∧ RdW CustodyR.enc 3 28 w lo hi v rs ∧ ∀ r ∈ rs, RdW encInt 1 2 w lo hi r.p0 r.h.done ∧ RdW encBool 1 4 w lo hi r.p1 r.h.ext
theorem RdWCustody.rd {w : World} {lo hi : Nat} {v : Value} {xs : List Custody} (h : RdWCustody w lo hi v xs) : RdCustody w lo hi v xs := by
  obtain ⟨rs, h1, h2, h3⟩ := h
  exact ⟨rs, h1, h2.rd, fun r hr => by obtain ⟨a0, a1⟩ := h3 r hr; exact ⟨a0.rd, a1.rd⟩⟩
theorem RdCustody.below {w w' : World} {lo hi B : Nat} {v : Value} {xs : List Custody} (h : RdCustody w lo hi v xs) (hb : Below B w w') (hB : hi ≤ B) : RdCustody w' lo hi v xs := by
  obtain ⟨rs, h1, h2, h3⟩ := h
  exact ⟨rs, h1, h2.below hb hB, fun r hr => by obtain ⟨a0, a1⟩ := h3 r hr; exact ⟨a0.below hb hB, a1.below hb hB⟩⟩
theorem RdCustody.chg {w w' : World} {lo hi lo' hi' : Nat} {v : Value} {xs : List Custody} (h : RdCustody w lo hi v xs) (hc : Chg lo' hi' w w') (hs : hi ≤ w.heap.size) (hd : hi ≤ lo' ∨ hi' ≤ lo) : RdCustody w' lo hi v xs := by
  obtain ⟨rs, h1, h2, h3⟩ := h
  exact ⟨rs, h1, h2.chg hc hs hd, fun r hr => by obtain ⟨a0, a1⟩ := h3 r hr; exact ⟨a0.chg hc hs hd, a1.chg hc hs hd⟩⟩
theorem RdCustody.wide {w : World} {lo hi lo' hi' : Nat} {v : Value} {xs : List Custody} (h : RdCustody w lo hi v xs) (hl : lo' ≤ lo) (hh : hi ≤ hi') : RdCustody w lo' hi' v xs := by
  obtain ⟨rs, h1, h2, h3⟩ := h
  exact ⟨rs, h1, h2.wide hl hh, fun r hr => by obtain ⟨a0, a1⟩ := h3 r hr; exact ⟨a0.wide hl hh, a1.wide hl hh⟩⟩
theorem RdWCustody.below {w w' : World} {lo hi B : Nat} {v : Value} {xs : List Custody} (h : RdWCustody w lo hi v xs) (hb : Below B w w') (hB : hi ≤ B) : RdWCustody w' lo hi v xs := by
  obtain ⟨rs, h1, h2, h3⟩ := h
  exact ⟨rs, h1, h2.below hb hB, fun r hr => by obtain ⟨a0, a1⟩ := h3 r hr; exact ⟨a0.below hb hB, a1.below hb hB⟩⟩
theorem RdWCustody.chg {w w' : World} {lo hi lo' hi' : Nat} {v : Value} {xs : List Custody} (h : RdWCustody w lo hi v xs) (hc : Chg lo' hi' w w') (hs : hi ≤ w.heap.size) (hd : hi ≤ lo' ∨ hi' ≤ lo) : RdWCustody w' lo hi v xs := by
  obtain ⟨rs, h1, h2, h3⟩ := h
  exact ⟨rs, h1, h2.chg hc hs hd, fun r hr => by obtain ⟨a0, a1⟩ := h3 r hr; exact ⟨a0.chg hc hs hd, a1.chg hc hs hd⟩⟩
theorem RdWCustody.wide {w : World} {lo hi lo' hi' : Nat} {v : Value} {xs : List Custody} (h : RdWCustody w lo hi v xs) (hl : lo' ≤ lo) (hh : hi ≤ hi') : RdWCustody w lo' hi' v xs := by
  obtain ⟨rs, h1, h2, h3⟩ := h
  exact ⟨rs, h1, h2.wide hl hh, fun r hr => by obtain ⟨a0, a1⟩ := h3 r hr; exact ⟨a0.wide hl hh, a1.wide hl hh⟩⟩
def Custody.beq (s t : Custody) : Bool := ((s.start == t.start) && (eqL intEq s.done t.done && eqL boolEq s.ext t.ext))
theorem Custody.beq_iff (s t : Custody) : Custody.beq s t = true ↔ s = t := by
  obtain ⟨a0, a1, a2⟩ := s; obtain ⟨b0, b1, b2⟩ := t
  simp [Custody.beq, eqL_iff boolEq_iff, eqL_iff intEq_iff]
theorem Custody.beq_refl (s : Custody) : Custody.beq s s = true := (Custody.beq_iff s s).2 rfl
theorem Custody.eqL_refl (xs : List Custody) : eqL Custody.beq xs xs = true := (eqL_iff Custody.beq_iff).2 rfl
def Custody.by_ (l : Int) (s : Custody) : Prop := s.done.length ≤ l ∧ s.ext.length ≤ l
def Custody.small (s : Custody) : Prop := Custody.by_ 1048576 s
def Custody.big (s : Custody) : Prop := Custody.by_ 9223372036854775807 s
theorem Custody.by_up {l l' : Int} {s : Custody} (h : Custody.by_ l s) (hl : l ≤ l') : Custody.by_ l' s := by
  obtain ⟨b0, b1⟩ := h
  exact ⟨by omega, by omega⟩
theorem Custody.small_of {l : Int} {s : Custody} (h : Custody.by_ l s) (hl : l ≤ 1048576) : Custody.small s := Custody.by_up h hl
theorem Custody.small.big {s : Custody} (h : Custody.small s) : Custody.big s := Custody.by_up h (by omega)
theorem Custody.by_.len0 {l : Int} {s : Custody} (h : Custody.by_ l s) : s.done.length ≤ l := by
  obtain ⟨b0, b1⟩ := h
  assumption
theorem Custody.small.len0 {s : Custody} (h : Custody.small s) : s.done.length ≤ 1048576 := by have := Custody.by_.len0 h; omega
theorem Custody.by_.len1 {l : Int} {s : Custody} (h : Custody.by_ l s) : s.ext.length ≤ l := by
  obtain ⟨b0, b1⟩ := h
  assumption
theorem Custody.small.len1 {s : Custody} (h : Custody.small s) : s.ext.length ≤ 1048576 := by have := Custody.by_.len1 h; omega
def Custody.Sz (l : Int) (s : Custody) (r : Int) : Prop := r ≤ l ∧ (0 ≤ r → Custody.by_ l s)
def Custody.SzS (l : Int) (xs : List Custody) (r : Int) : Prop := r ≤ l ∧ (0 ≤ r → xs.length ≤ l ∧ (∀ x ∈ xs, Custody.by_ l x))
def Custody.To (s : Custody) (w : World) (e : Ending) (w' : World) : Prop := ∃ p0 p1 : Value, e = .returned (.agg #[.int .i64 s.start, p0, p1]) ∧ RdW encInt 1 2 w' w.heap.size w'.heap.size p0 s.done ∧ RdW encBool 1 4 w' w.heap.size w'.heap.size p1 s.ext ∧ Below w.heap.size w w'




theorem RdCustody.at {w w' : World} {lo hi B : Nat} {A : Option Addr} {n c : Nat} {rs : List CustodyR} {k : Nat} (h : RdF CustodyR.enc 3 w lo hi (.slice A n c) rs) (hb : Below B w w') (hB : hi ≤ B) (hk : k < rs.length) :
    ∃ (r : CustodyR) (b off : Nat), Hid (rs[k]? = some r) ∧ A = some ⟨b, off, none⟩ ∧ lo ≤ b ∧ b < hi ∧ w'.cell? ⟨b, off + k * 3, none⟩ = some (.int .i64 r.h.start) ∧ w'.cell? ⟨b, off + k * 3 + 1, none⟩ = some (r.p0) ∧ w'.cell? ⟨b, off + k * 3 + 2, none⟩ = some (r.p1) := by
  obtain ⟨r, b, off, h1, h2, h3, h4, h5⟩ := h.get hb hB hk
  exact ⟨r, b, off, h1, h2, h3, h4, h5 0 _ rfl, h5 1 _ rfl, h5 2 _ rfl⟩



end Go.Proofs.Ytfafcicbfgdmcaa
