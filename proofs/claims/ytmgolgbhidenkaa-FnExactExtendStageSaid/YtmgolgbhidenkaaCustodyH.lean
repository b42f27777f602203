/- Custody: copies, comparison, size, as walks. Written by a program (gen_nest.py). -/
import Derived.Test.YtmgolgbhidenkaaRows
import Derived.Test.YtmgolgbhidenkaaMem4
import Derived.Test.YtmgolgbhidenkaaBoolsH
import Derived.Test.YtmgolgbhidenkaaInts2H
import Derived.StillTailTactics
import Derived.Deep.RegionHeld3
namespace Go.Proofs.Ytmgolgbhidenkaa
open Go.RowKit
set_option linter.unusedVariables false

structure Custody where
  start : Int
  done : List Int
  ext : List Bool
/-- With the slices' headers. -/
structure CustodyR where
  h : Custody
  p0 : Value
  p1 : Value
def CustodyR.enc (r : CustodyR) : List Value := [.int .i64 r.h.start, r.p0, r.p1]
def RdCustody (w : World) (lo hi : Nat) (v : Value) (xs : List Custody) : Prop := ∃ rs : List CustodyR, rs.map CustodyR.h = xs ∧ RdF CustodyR.enc 3 w lo hi v rs ∧ ∀ r ∈ rs, RdF encInt 1 w lo hi r.p0 r.h.done ∧ RdF encBool 1 w lo hi r.p1 r.h.ext
def RdWCustody (w : World) (lo hi : Nat) (v : Value) (xs : List Custody) : Prop := ∃ rs : List CustodyR, rs.map CustodyR.h = xs ∧ RdW CustodyR.enc 3 32 w lo hi v rs ∧ ∀ r ∈ rs, RdW encInt 1 2 w lo hi r.p0 r.h.done ∧ RdW encBool 1 4 w lo hi r.p1 r.h.ext
theorem RdWCustody.rd {w : World} {lo hi : Nat} {v : Value} {xs : List Custody} (h : RdWCustody w lo hi v xs) : RdCustody w lo hi v xs := by
  obtain ⟨rs, h1, h2, h3⟩ := h
  exact ⟨rs, h1, h2.rd, fun r hr => by obtain ⟨a0, a1⟩ := h3 r hr; exact ⟨a0.rd, a1.rd⟩⟩
theorem RdCustody.below {w w' : World} {lo hi B : Nat} {v : Value} {xs : List Custody} (h : RdCustody w lo hi v xs) (hb : Below B w w') (hB : hi ≤ B) : RdCustody w' lo hi v xs := by
  obtain ⟨rs, h1, h2, h3⟩ := h
  exact ⟨rs, h1, h2.below hb hB, fun r hr => by obtain ⟨a0, a1⟩ := h3 r hr; exact ⟨a0.below hb hB, a1.below hb hB⟩⟩
theorem RdCustody.chg {w w' : World} {lo hi lo' hi' : Nat} {v : Value} {xs : List Custody} (h : RdCustody w lo hi v xs) (hc : Chg lo' hi' w w') (hs : hi ≤ w.heap.size) (hd : hi ≤ lo' ∨ hi' ≤ lo) : RdCustody w' lo hi v xs := by
  obtain ⟨rs, h1, h2, h3⟩ := h
  exact ⟨rs, h1, h2.chg hc hs hd, fun r hr => by obtain ⟨a0, a1⟩ := h3 r hr; exact ⟨a0.chg hc hs hd, a1.chg hc hs hd⟩⟩
theorem RdCustody.wide {w : World} {lo hi lo' hi' : Nat} {v : Value} {xs : List Custody} (h : RdCustody w lo hi v xs) (hl : lo' ≤ lo) (hh : hi ≤ hi') : RdCustody w lo' hi' v xs := by
  obtain ⟨rs, h1, h2, h3⟩ := h
  exact ⟨rs, h1, h2.wide hl hh, fun r hr => by obtain ⟨a0, a1⟩ := h3 r hr; exact ⟨a0.wide hl hh, a1.wide hl hh⟩⟩
theorem RdWCustody.below {w w' : World} {lo hi B : Nat} {v : Value} {xs : List Custody} (h : RdWCustody w lo hi v xs) (hb : Below B w w') (hB : hi ≤ B) : RdWCustody w' lo hi v xs := by
  obtain ⟨rs, h1, h2, h3⟩ := h
  exact ⟨rs, h1, h2.below hb hB, fun r hr => by obtain ⟨a0, a1⟩ := h3 r hr; exact ⟨a0.below hb hB, a1.below hb hB⟩⟩
theorem RdWCustody.chg {w w' : World} {lo hi lo' hi' : Nat} {v : Value} {xs : List Custody} (h : RdWCustody w lo hi v xs) (hc : Chg lo' hi' w w') (hs : hi ≤ w.heap.size) (hd : hi ≤ lo' ∨ hi' ≤ lo) : RdWCustody w' lo hi v xs := by
  obtain ⟨rs, h1, h2, h3⟩ := h
  exact ⟨rs, h1, h2.chg hc hs hd, fun r hr => by obtain ⟨a0, a1⟩ := h3 r hr; exact ⟨a0.chg hc hs hd, a1.chg hc hs hd⟩⟩
theorem RdWCustody.wide {w : World} {lo hi lo' hi' : Nat} {v : Value} {xs : List Custody} (h : RdWCustody w lo hi v xs) (hl : lo' ≤ lo) (hh : hi ≤ hi') : RdWCustody w lo' hi' v xs := by
  obtain ⟨rs, h1, h2, h3⟩ := h
  exact ⟨rs, h1, h2.wide hl hh, fun r hr => by obtain ⟨a0, a1⟩ := h3 r hr; exact ⟨a0.wide hl hh, a1.wide hl hh⟩⟩
def Custody.beq (s t : Custody) : Bool := ((s.start == t.start) && (eqL intEq s.done t.done && eqL boolEq s.ext t.ext))
theorem Custody.beq_iff (s t : Custody) : Custody.beq s t = true ↔ s = t := by
  obtain ⟨a0, a1, a2⟩ := s; obtain ⟨b0, b1, b2⟩ := t
  simp [Custody.beq, eqL_iff boolEq_iff, eqL_iff intEq_iff]
theorem Custody.beq_refl (s : Custody) : Custody.beq s s = true := (Custody.beq_iff s s).2 rfl
theorem Custody.eqL_refl (xs : List Custody) : eqL Custody.beq xs xs = true := (eqL_iff Custody.beq_iff).2 rfl
def Custody.by_ (l : Int) (s : Custody) : Prop := s.done.length ≤ l ∧ s.ext.length ≤ l
def Custody.small (s : Custody) : Prop := Custody.by_ 1048576 s
def Custody.big (s : Custody) : Prop := Custody.by_ 9223372036854775807 s
theorem Custody.by_up {l l' : Int} {s : Custody} (h : Custody.by_ l s) (hl : l ≤ l') : Custody.by_ l' s := by
  obtain ⟨b0, b1⟩ := h
  exact ⟨by omega, by omega⟩
theorem Custody.small_of {l : Int} {s : Custody} (h : Custody.by_ l s) (hl : l ≤ 1048576) : Custody.small s := Custody.by_up h hl
theorem Custody.small.big {s : Custody} (h : Custody.small s) : Custody.big s := Custody.by_up h (by omega)
theorem Custody.by_.len0 {l : Int} {s : Custody} (h : Custody.by_ l s) : s.done.length ≤ l := by
  obtain ⟨b0, b1⟩ := h
  assumption
theorem Custody.small.len0 {s : Custody} (h : Custody.small s) : s.done.length ≤ 1048576 := by have := Custody.by_.len0 h; omega
theorem Custody.by_.len1 {l : Int} {s : Custody} (h : Custody.by_ l s) : s.ext.length ≤ l := by
  obtain ⟨b0, b1⟩ := h
  assumption
theorem Custody.small.len1 {s : Custody} (h : Custody.small s) : s.ext.length ≤ 1048576 := by have := Custody.by_.len1 h; omega
def Custody.Sz (l : Int) (s : Custody) (r : Int) : Prop := r ≤ l ∧ (0 ≤ r → Custody.by_ l s)
def Custody.SzS (l : Int) (xs : List Custody) (r : Int) : Prop := r ≤ l ∧ (0 ≤ r → xs.length ≤ l ∧ (∀ x ∈ xs, Custody.by_ l x))
def Custody.To (s : Custody) (w : World) (e : Ending) (w' : World) : Prop := ∃ p0 p1 : Value, e = .returned (.agg #[.int .i64 s.start, p0, p1]) ∧ RdW encInt 1 2 w' w.heap.size w'.heap.size p0 s.done ∧ RdW encBool 1 4 w' w.heap.size w'.heap.size p1 s.ext ∧ Below w.heap.size w w'

set_option maxRecDepth 100000 in
set_option maxHeartbeats 2000000 in
theorem toCustody_any (s : Custody) (p0 p1 : Value) (lo hi : Nat) (w : World) (h0 : RdF encInt 1 w lo hi p0 s.done) (h1 : RdF encBool 1 w lo hi p1 s.ext) (hh : hi ≤ w.heap.size) (hs : s.small) :
    Calls Try.prog 16 #[.agg #[.int .i64 s.start, p0, p1]] w fun e w' => s.To w e w' := by
  have hl0 := hs.len0
  have hl1 := hs.len1
  go_enter Try.func16, Try.ntmps16
  go_wp2_with fail
  have hX0 := Blk.newAt (w := w) (n := w.heap.size) (t := 26) (cs := #[.int .i64 s.start, p0, p1]) rfl
  have hX1 := Blk.newAt (w := (w.alloc (.cells #[.int .i64 s.start, p0, p1] 26))) (n := w.heap.size + 1) (t := 32) (cs := #[.int .i64 0, .slice none 0 0, .slice none 0 0]) (by simp)
  have hX2 := Blk.newAt (w := ((w.alloc (.cells #[.int .i64 s.start, p0, p1] 26)).alloc (.cells #[.int .i64 0, .slice none 0 0, .slice none 0 0] 32))) (n := w.heap.size + 1 + 1) (t := 32) (cs := #[.int .i64 s.start, .slice none 0 0, .slice none 0 0]) (by simp)
  replace hX0 := (hX0.alloc (.cells #[.int .i64 0, .slice none 0 0, .slice none 0 0] 32)).alloc (.cells #[.int .i64 s.start, .slice none 0 0, .slice none 0 0] 32)
  replace hX1 := hX1.alloc (.cells #[.int .i64 s.start, .slice none 0 0, .slice none 0 0] 32)
  have hbW : Below w.heap.size w (((w.alloc (.cells #[.int .i64 s.start, p0, p1] 26)).alloc (.cells #[.int .i64 0, .slice none 0 0, .slice none 0 0] 32)).alloc (.cells #[.int .i64 s.start, .slice none 0 0, .slice none 0 0] 32)) := (((Below.refl _ _).alloc (Nat.le_refl _) _).alloc (by simp) _).alloc (by first | omega | (simp; done) | (simp; omega)) _
  have hzW : (((w.alloc (.cells #[.int .i64 s.start, p0, p1] 26)).alloc (.cells #[.int .i64 0, .slice none 0 0, .slice none 0 0] 32)).alloc (.cells #[.int .i64 s.start, .slice none 0 0, .slice none 0 0] 32)).heap.size = w.heap.size + 3 := by simp
  generalize hW : (((w.alloc (.cells #[.int .i64 s.start, p0, p1] 26)).alloc (.cells #[.int .i64 0, .slice none 0 0, .slice none 0 0] 32)).alloc (.cells #[.int .i64 s.start, .slice none 0 0, .slice none 0 0] 32)) = W0 at *
  clear hW
  replace h0 := h0.below hbW hh
  replace h1 := h1.below hbW hh
  refine (toInt64S_any p0 s.done _ _ _ h0 (by (first | omega | (simp; omega) | (simp; done))) (by omega)).mono ?_
  rintro e w1 ⟨y0, rfl, hy0, b1⟩
  obtain ⟨Y0, Z0, rfl, hZ0⟩ := hy0.form
  have z1 := b1.size
  replace hX0 := hX0.below b1 (by omega)
  replace hX1 := hX1.below b1 (by omega)
  replace hX2 := hX2.below b1 (by omega)
  replace hbW := Below.step b1 (by omega) hbW
  replace h1 := h1.below b1 (by omega)
  obtain ⟨q0_0, q0_1, q0_2⟩ := hX0.c3
  obtain ⟨r0_0, r0_1, r0_2⟩ := hX1.c3
  obtain ⟨s0_0, s0_1, s0_2⟩ := hX2.c3
  have f0_0 := hX1.frozen 0
  have g0_0 := hX2.frozen 0
  have f0_1 := hX1.frozen 1
  have g0_1 := hX2.frozen 1
  have f0_2 := hX1.frozen 2
  have g0_2 := hX2.frozen 2
  go_wp2_with fail

  refine (toBoolS_any p1 s.ext _ _ _ (h1.set (by first | omega | (simp; done) | (simp; omega)) _) (by (first | omega | (simp; omega) | (simp; done))) (by omega)).mono ?_
  rintro e w2 ⟨y1, rfl, hy1, b2⟩
  obtain ⟨Y1, Z1, rfl, hZ1⟩ := hy1.form
  have z2 := b2.size
  try simp at z2
  replace hy1 := hy1.wide (lo' := w1.heap.size) (by first | (simp; done) | exact Nat.le_refl _) (Nat.le_refl _)
  replace hX0 := (hX0.far (by first | (simp; done) | (simp; omega)) _).below b2 (by first | omega | (simp; done) | (simp; omega))
  replace hX1 := (hX1.far (by first | (simp; done) | (simp; omega)) _).below b2 (by first | omega | (simp; done) | (simp; omega))
  replace hX2 := (hX2.set_ 1 (.slice Y0 s.done.length Z0)).below b2 (by first | omega | (simp; done) | (simp; omega))
  replace hX2 : Blk w2 (w.heap.size + 1 + 1) 32 #[.int .i64 s.start, .slice Y0 s.done.length Z0, .slice none 0 0] := hX2
  replace hbW := Below.step b2 (by (first | omega | (simp; omega) | (simp; done))) (hbW.setCell (p := ⟨w.heap.size + 1 + 1, 1, none⟩) (by first | (simp; done) | (simp; omega)) (.slice Y0 s.done.length Z0))
  replace hy0 := (hy0.set (by first | omega | (simp; done) | (simp; omega)) _).below b2 (by first | omega | (simp; done) | (simp; omega))
  obtain ⟨q1_0, q1_1, q1_2⟩ := hX0.c3
  obtain ⟨r1_0, r1_1, r1_2⟩ := hX1.c3
  obtain ⟨s1_0, s1_1, s1_2⟩ := hX2.c3
  have f1_0 := hX1.frozen 0
  have g1_0 := hX2.frozen 0
  have f1_1 := hX1.frozen 1
  have g1_1 := hX2.frozen 1
  have f1_2 := hX1.frozen 2
  have g1_2 := hX2.frozen 2
  go_wp2_with fail
  refine bodyPost_ret (v := .agg #[.int .i64 s.start, .slice Y0 s.done.length Z0, .slice Y1 s.ext.length Z1]) (by simp [results, Try.results16, go_sem, *]) rfl ⟨_, _, rfl, ?_, ?_, ?_⟩
  · refine RdW.wide (lo := W0.heap.size) (hi := w1.heap.size) ?_ (by omega) (by first | (simp; done) | (simp; omega))
    (repeat (refine RdW.set ?_ (by first | omega | (simp; done) | (simp; omega)) _)); exact hy0
  · refine RdW.wide (lo := w1.heap.size) (hi := w2.heap.size) ?_ (by omega) (by first | (simp; done) | (simp; omega))
    (repeat (refine RdW.set ?_ (by first | omega | (simp; done) | (simp; omega)) _)); exact hy1
  · (repeat (first | with_reducible assumption | with_reducible exact Below.refl _ _ | with_reducible refine Below.setCell ?_ ?_ _ | with_reducible refine Below.alloc ?_ ?_ _ | with_reducible refine Below.drew ?_ | with_reducible refine below_drewN ?_ _ | with_reducible refine Below.step (by with_reducible assumption) ?_ ?_ | omega | (simp <;> omega) | (simp; done)))

set_option maxRecDepth 100000 in
set_option maxHeartbeats 2000000 in
theorem eqCustody_any (s t : Custody) (p0 p1 p0' p1' : Value) (lo hi lo' hi' : Nat) (w : World) (h0 : RdF encInt 1 w lo hi p0 s.done) (h1 : RdF encBool 1 w lo hi p1 s.ext) (hh : hi ≤ w.heap.size) (h0' : RdF encInt 1 w lo' hi' p0' t.done) (h1' : RdF encBool 1 w lo' hi' p1' t.ext) (hh' : hi' ≤ w.heap.size) (hs : s.small) (ht : t.small) :
    Calls Try.prog 19 #[.agg #[.int .i64 s.start, p0, p1], .agg #[.int .i64 t.start, p0', p1']] w fun e w' => e = .returned (.bool (Custody.beq s t)) ∧ Below w.heap.size w w' := by
  have hl0 := hs.len0
  have hl0' := ht.len0
  have hl1 := hs.len1
  have hl1' := ht.len1
  have kA := (Blk.newAt (w := w) (n := w.heap.size) (t := 32) (cs := #[.int .i64 s.start, p0, p1]) rfl).alloc (.cells #[.int .i64 t.start, p0', p1'] 32)
  have kB := Blk.newAt (w := w.alloc (.cells #[.int .i64 s.start, p0, p1] 32)) (n := w.heap.size + 1) (t := 32) (cs := #[.int .i64 t.start, p0', p1']) (by simp)
  have hbW : Below w.heap.size w ((w.alloc (.cells #[.int .i64 s.start, p0, p1] 32)).alloc (.cells #[.int .i64 t.start, p0', p1'] 32)) := ((Below.refl _ _).alloc (Nat.le_refl _) _).alloc (by simp) _
  have hzW : ((w.alloc (.cells #[.int .i64 s.start, p0, p1] 32)).alloc (.cells #[.int .i64 t.start, p0', p1'] 32)).heap.size = w.heap.size + 1 + 1 := by simp
  replace h0 := h0.below hbW hh
  replace h0' := h0'.below hbW hh'
  replace h1 := h1.below hbW hh
  replace h1' := h1'.below hbW hh'
  go_enter Try.func19, Try.ntmps19
  go_wp2_with fail
  · go_ret; exact ⟨ret_bool (by simp_all [Custody.beq]), by (repeat (first | with_reducible assumption | with_reducible exact Below.refl _ _ | with_reducible refine Below.setCell ?_ ?_ _ | with_reducible refine Below.alloc ?_ ?_ _ | with_reducible refine Below.drew ?_ | with_reducible refine below_drewN ?_ _ | with_reducible refine Below.step (by with_reducible assumption) ?_ ?_ | omega | (simp <;> omega) | (simp; done)))⟩
  · generalize ((w.alloc (.cells #[.int .i64 s.start, p0, p1] 32)).alloc (.cells #[.int .i64 t.start, p0', p1'] 32)) = W0 at *
    refine (eqInt64S_any p0 p0' s.done t.done _ _ _ _ _ h0 (by omega) h0' (by omega) (by omega) (by omega)).mono ?_
    rintro e w1 ⟨rfl, b1⟩
    have z1 := b1.size
    replace kA := kA.below b1 (by omega)
    replace kB := kB.below b1 (by omega)
    replace hbW := Below.step b1 (by omega) hbW
    replace h1 := h1.below b1 (by omega)
    replace h1' := h1'.below b1 (by omega)
    clear b1
    obtain ⟨qa0_0, qa0_1, qa0_2⟩ := kA.c3
    obtain ⟨qb0_0, qb0_1, qb0_2⟩ := kB.c3
    cases hc0 : eqL intEq s.done t.done with
    | false =>
      go_wp2_with fail
      go_ret; exact ⟨ret_bool (by simp_all [Custody.beq]), by (repeat (first | with_reducible assumption | with_reducible exact Below.refl _ _ | with_reducible refine Below.setCell ?_ ?_ _ | with_reducible refine Below.alloc ?_ ?_ _ | with_reducible refine Below.drew ?_ | with_reducible refine below_drewN ?_ _ | with_reducible refine Below.step (by with_reducible assumption) ?_ ?_ | omega | (simp <;> omega) | (simp; done)))⟩
    | true =>
      go_wp2_with fail
      · skip
        refine (eqBoolS_any p1 p1' s.ext t.ext _ _ _ _ _ h1 (by omega) h1' (by omega) (by omega) (by omega)).mono ?_
        rintro e w2 ⟨rfl, b2⟩
        have z2 := b2.size
        replace kA := kA.below b2 (by omega)
        replace kB := kB.below b2 (by omega)
        replace hbW := Below.step b2 (by omega) hbW
        clear b2
        obtain ⟨qa1_0, qa1_1, qa1_2⟩ := kA.c3
        obtain ⟨qb1_0, qb1_1, qb1_2⟩ := kB.c3
        cases hc1 : eqL boolEq s.ext t.ext with
        | false =>
          go_wp2_with fail
          go_ret; exact ⟨ret_bool (by simp_all [Custody.beq]), by (repeat (first | with_reducible assumption | with_reducible exact Below.refl _ _ | with_reducible refine Below.setCell ?_ ?_ _ | with_reducible refine Below.alloc ?_ ?_ _ | with_reducible refine Below.drew ?_ | with_reducible refine below_drewN ?_ _ | with_reducible refine Below.step (by with_reducible assumption) ?_ ?_ | omega | (simp <;> omega) | (simp; done)))⟩
        | true =>
          go_wp2_with fail
          · go_ret; exact ⟨ret_bool (by simp_all [Custody.beq]), by (repeat (first | with_reducible assumption | with_reducible exact Below.refl _ _ | with_reducible refine Below.setCell ?_ ?_ _ | with_reducible refine Below.alloc ?_ ?_ _ | with_reducible refine Below.drew ?_ | with_reducible refine below_drewN ?_ _ | with_reducible refine Below.step (by with_reducible assumption) ?_ ?_ | omega | (simp <;> omega) | (simp; done)))⟩

set_option maxRecDepth 100000 in
set_option maxHeartbeats 2000000 in
theorem szCustody_any (s : Custody) (p0 p1 : Value) (lo hi : Nat) (l : Int) (w : World) (h0 : RdF encInt 1 w lo hi p0 s.done) (h1 : RdF encBool 1 w lo hi p1 s.ext) (hh : hi ≤ w.heap.size) (hg : s.big) (h0' : 0 ≤ l) (h1' : l ≤ 1048576) :
    Calls Try.prog 13 #[.agg #[.int .i64 s.start, p0, p1], .int .i64 l] w fun e w' => RetI (Custody.Sz l s) w e w' := by
  obtain ⟨g0, g1⟩ := hg
  have kA := Blk.newAt (w := w) (n := w.heap.size) (t := 26) (cs := #[.int .i64 s.start, p0, p1]) rfl
  have hbW : Below w.heap.size w (w.alloc (.cells #[.int .i64 s.start, p0, p1] 26)) := (Below.refl _ _).alloc (Nat.le_refl _) _
  have hzW : (w.alloc (.cells #[.int .i64 s.start, p0, p1] 26)).heap.size = w.heap.size + 1 := by simp
  replace h0 := h0.below hbW hh
  replace h1 := h1.below hbW hh
  go_enter Try.func13, Try.ntmps13
  go_wp2_with fail
  generalize w.alloc (.cells #[.int .i64 s.start, p0, p1] 26) = W0 at *
  refine (szInt64S_any p0 s.done _ _ _ _ h0 (by omega) (by omega) (by omega) (by omega)).mono ?_
  rintro e w1 ⟨r0, rfl, ⟨ra0, rb0⟩, b1⟩
  have z1 := b1.size
  replace kA := kA.below b1 (by omega)
  replace hbW := Below.step b1 (by omega) hbW
  replace h1 := h1.below b1 (by omega)
  clear b1
  by_cases hn0 : r0 < 0
  · go_wp2_with fail
    go_ret
    exact ⟨_, rfl, ⟨by omega, by omega⟩, by (repeat (first | with_reducible assumption | with_reducible exact Below.refl _ _ | with_reducible refine Below.setCell ?_ ?_ _ | with_reducible refine Below.alloc ?_ ?_ _ | with_reducible refine Below.drew ?_ | with_reducible refine below_drewN ?_ _ | with_reducible refine Below.step (by with_reducible assumption) ?_ ?_ | omega | (simp <;> omega) | (simp; done)))⟩
  have hp0 : 0 ≤ r0 := by omega
  have ub0 := rb0 hp0
  clear rb0
  obtain ⟨qa0_0, qa0_1, qa0_2⟩ := kA.c3
  go_wp2_with fail
  refine (szBoolS_any p1 s.ext _ _ _ _ h1 (by omega) (by omega) (by omega) (by omega)).mono ?_
  rintro e w2 ⟨r1, rfl, ⟨ra1, rb1⟩, b2⟩
  have z2 := b2.size
  replace kA := kA.below b2 (by omega)
  replace hbW := Below.step b2 (by omega) hbW
  clear b2
  by_cases hn1 : r1 < 0
  · go_wp2_with fail
    go_ret
    exact ⟨_, rfl, ⟨by omega, by omega⟩, by (repeat (first | with_reducible assumption | with_reducible exact Below.refl _ _ | with_reducible refine Below.setCell ?_ ?_ _ | with_reducible refine Below.alloc ?_ ?_ _ | with_reducible refine Below.drew ?_ | with_reducible refine below_drewN ?_ _ | with_reducible refine Below.step (by with_reducible assumption) ?_ ?_ | omega | (simp <;> omega) | (simp; done)))⟩
  have hp1 : 0 ≤ r1 := by omega
  have ub1 := rb1 hp1
  clear rb1
  obtain ⟨qa1_0, qa1_1, qa1_2⟩ := kA.c3
  go_wp2_with fail
  go_ret
  exact ⟨_, rfl, ⟨by omega, fun _ => ⟨by omega, by omega⟩⟩, by (repeat (first | with_reducible assumption | with_reducible exact Below.refl _ _ | with_reducible refine Below.setCell ?_ ?_ _ | with_reducible refine Below.alloc ?_ ?_ _ | with_reducible refine Below.drew ?_ | with_reducible refine below_drewN ?_ _ | with_reducible refine Below.step (by with_reducible assumption) ?_ ?_ | omega | (simp <;> omega) | (simp; done)))⟩

theorem RdCustody.at {w w' : World} {lo hi B : Nat} {A : Option Addr} {n c : Nat} {rs : List CustodyR} {k : Nat} (h : RdF CustodyR.enc 3 w lo hi (.slice A n c) rs) (hb : Below B w w') (hB : hi ≤ B) (hk : k < rs.length) :
    ∃ (r : CustodyR) (b off : Nat), Hid (rs[k]? = some r) ∧ A = some ⟨b, off, none⟩ ∧ lo ≤ b ∧ b < hi ∧ w'.cell? ⟨b, off + k * 3, none⟩ = some (.int .i64 r.h.start) ∧ w'.cell? ⟨b, off + k * 3 + 1, none⟩ = some (r.p0) ∧ w'.cell? ⟨b, off + k * 3 + 2, none⟩ = some (r.p1) := by
  obtain ⟨r, b, off, h1, h2, h3, h4, h5⟩ := h.get hb hB hk
  exact ⟨r, b, off, h1, h2, h3, h4, h5 0 _ rfl, h5 1 _ rfl, h5 2 _ rfl⟩



end Go.Proofs.Ytmgolgbhidenkaa
