/- Hearing: copies, comparison, size, as walks. Written by a program (gen_nest.py). -/
import Derived.Test.YtgpknnlphabpkaaGreatRows
import Derived.Test.YtgpknnlphabpkaaGreatMem4
import Derived.Test.YtgpknnlphabpkaaGreatStrsH
import Derived.StillTailTactics
import Derived.Deep.RegionHeld3
namespace Go.Proofs.YtgpknnlphabpkaaGreat
open Go.RowKit
set_option linter.unusedVariables false

structure Hearing where
  code : ByteArray
  len : Int
  people : List ByteArray
  last : Int
/-- With the slices' headers. -/
structure HearingR where
  h : Hearing
  p0 : Value
def HearingR.enc (r : HearingR) : List Value := [.string r.h.code, .int .i64 r.h.len, r.p0, .int .i64 r.h.last]
def RdHearing (w : World) (lo hi : Nat) (v : Value) (xs : List Hearing) : Prop := ∃ rs : List HearingR, rs.map HearingR.h = xs ∧ RdF HearingR.enc 4 w lo hi v rs ∧ ∀ r ∈ rs, RdF encStr 1 w lo hi r.p0 r.h.people
def RdWHearing (w : World) (lo hi : Nat) (v : Value) (xs : List Hearing) : Prop := ∃ rs : List HearingR, rs.map HearingR.h = xs ∧ RdW HearingR.enc 4 76 w lo hi v rs ∧ ∀ r ∈ rs, RdW encStr 1 9 w lo hi r.p0 r.h.people
theorem RdWHearing.rd {w : World} {lo hi : Nat} {v : Value} {xs : List Hearing} (h : RdWHearing w lo hi v xs) : RdHearing w lo hi v xs := by
  obtain ⟨rs, h1, h2, h3⟩ := h
  exact ⟨rs, h1, h2.rd, fun r hr => by obtain a0 := h3 r hr; exact a0.rd⟩
theorem RdHearing.below {w w' : World} {lo hi B : Nat} {v : Value} {xs : List Hearing} (h : RdHearing w lo hi v xs) (hb : Below B w w') (hB : hi ≤ B) : RdHearing w' lo hi v xs := by
  obtain ⟨rs, h1, h2, h3⟩ := h
  exact ⟨rs, h1, h2.below hb hB, fun r hr => by obtain a0 := h3 r hr; exact a0.below hb hB⟩
theorem RdHearing.chg {w w' : World} {lo hi lo' hi' : Nat} {v : Value} {xs : List Hearing} (h : RdHearing w lo hi v xs) (hc : Chg lo' hi' w w') (hs : hi ≤ w.heap.size) (hd : hi ≤ lo' ∨ hi' ≤ lo) : RdHearing w' lo hi v xs := by
  obtain ⟨rs, h1, h2, h3⟩ := h
  exact ⟨rs, h1, h2.chg hc hs hd, fun r hr => by obtain a0 := h3 r hr; exact a0.chg hc hs hd⟩
theorem RdHearing.wide {w : World} {lo hi lo' hi' : Nat} {v : Value} {xs : List Hearing} (h : RdHearing w lo hi v xs) (hl : lo' ≤ lo) (hh : hi ≤ hi') : RdHearing w lo' hi' v xs := by
  obtain ⟨rs, h1, h2, h3⟩ := h
  exact ⟨rs, h1, h2.wide hl hh, fun r hr => by obtain a0 := h3 r hr; exact a0.wide hl hh⟩
theorem RdWHearing.below {w w' : World} {lo hi B : Nat} {v : Value} {xs : List Hearing} (h : RdWHearing w lo hi v xs) (hb : Below B w w') (hB : hi ≤ B) : RdWHearing w' lo hi v xs := by
  obtain ⟨rs, h1, h2, h3⟩ := h
  exact ⟨rs, h1, h2.below hb hB, fun r hr => by obtain a0 := h3 r hr; exact a0.below hb hB⟩
theorem RdWHearing.chg {w w' : World} {lo hi lo' hi' : Nat} {v : Value} {xs : List Hearing} (h : RdWHearing w lo hi v xs) (hc : Chg lo' hi' w w') (hs : hi ≤ w.heap.size) (hd : hi ≤ lo' ∨ hi' ≤ lo) : RdWHearing w' lo hi v xs := by
  obtain ⟨rs, h1, h2, h3⟩ := h
  exact ⟨rs, h1, h2.chg hc hs hd, fun r hr => by obtain a0 := h3 r hr; exact a0.chg hc hs hd⟩
theorem RdWHearing.wide {w : World} {lo hi lo' hi' : Nat} {v : Value} {xs : List Hearing} (h : RdWHearing w lo hi v xs) (hl : lo' ≤ lo) (hh : hi ≤ hi') : RdWHearing w lo' hi' v xs := by
  obtain ⟨rs, h1, h2, h3⟩ := h
  exact ⟨rs, h1, h2.wide hl hh, fun r hr => by obtain a0 := h3 r hr; exact a0.wide hl hh⟩
def Hearing.beq (s t : Hearing) : Bool := ((s.code.toList == t.code.toList) && ((s.len == t.len) && (eqL strEq s.people t.people && (s.last == t.last))))
theorem Hearing.beq_iff (s t : Hearing) : Hearing.beq s t = true ↔ s = t := by
  obtain ⟨a0, a1, a2, a3⟩ := s; obtain ⟨b0, b1, b2, b3⟩ := t
  simp [Hearing.beq, toList_inj, eqL_iff strEq_iff]
theorem Hearing.beq_refl (s : Hearing) : Hearing.beq s s = true := (Hearing.beq_iff s s).2 rfl
theorem Hearing.eqL_refl (xs : List Hearing) : eqL Hearing.beq xs xs = true := (eqL_iff Hearing.beq_iff).2 rfl
def Hearing.by_ (l : Int) (s : Hearing) : Prop := s.code.size ≤ l ∧ s.people.length ≤ l ∧ (∀ y ∈ s.people, y.size ≤ l)
def Hearing.small (s : Hearing) : Prop := Hearing.by_ 1048576 s
def Hearing.big (s : Hearing) : Prop := Hearing.by_ 9223372036854775807 s
theorem Hearing.by_up {l l' : Int} {s : Hearing} (h : Hearing.by_ l s) (hl : l ≤ l') : Hearing.by_ l' s := by
  obtain ⟨b0, b1, b2⟩ := h
  exact ⟨by omega, by omega, fun y hy => by have := b2 y hy; omega⟩
theorem Hearing.small_of {l : Int} {s : Hearing} (h : Hearing.by_ l s) (hl : l ≤ 1048576) : Hearing.small s := Hearing.by_up h hl
theorem Hearing.small.big {s : Hearing} (h : Hearing.small s) : Hearing.big s := Hearing.by_up h (by omega)
theorem Hearing.by_.len0 {l : Int} {s : Hearing} (h : Hearing.by_ l s) : s.people.length ≤ l := by
  obtain ⟨b0, b1, b2⟩ := h
  assumption
theorem Hearing.small.len0 {s : Hearing} (h : Hearing.small s) : s.people.length ≤ 1048576 := by have := Hearing.by_.len0 h; omega
def Hearing.wt (s : Hearing) : Nat := s.people.length
def Hearing.wts (xs : List Hearing) : Nat := (xs.map Hearing.wt).sum
theorem Hearing.wts_succ {xs : List Hearing} {k : Nat} {x : Hearing} (h : xs[k]? = some x) : Hearing.wts (xs.take (k + 1)) = Hearing.wts (xs.take k) + x.wt := by simp [Hearing.wts, List.take_add_one, h]
def Hearing.Sz (l : Int) (s : Hearing) (r : Int) : Prop := r ≤ l ∧ (0 ≤ r → Hearing.by_ l s ∧ r + (s.wt : Int) ≤ l)
def Hearing.SzS (l : Int) (xs : List Hearing) (r : Int) : Prop := r ≤ l ∧ (0 ≤ r → xs.length ≤ l ∧ (∀ x ∈ xs, Hearing.by_ l x) ∧ (Hearing.wts xs : Int) ≤ l)
def Hearing.To (s : Hearing) (w : World) (e : Ending) (w' : World) : Prop := ∃ p0 : Value, e = .returned (.agg #[.string s.code, .int .i64 s.len, p0, .int .i64 s.last]) ∧ RdW encStr 1 9 w' w.heap.size w'.heap.size p0 s.people ∧ Below w.heap.size w w'

set_option maxRecDepth 100000 in
set_option maxHeartbeats 2000000 in
theorem toHearing_any (s : Hearing) (p0 : Value) (lo hi : Nat) (w : World) (h0 : RdF encStr 1 w lo hi p0 s.people) (hh : hi ≤ w.heap.size) (hs : s.small) :
    Calls Tryz.prog 67 #[.agg #[.string s.code, .int .i64 s.len, p0, .int .i64 s.last]] w fun e w' => s.To w e w' := by
  have hl0 := hs.len0
  go_enter Tryz.func67, Tryz.ntmps67
  go_wp2_with fail
  have hX0 := Blk.newAt (w := w) (n := w.heap.size) (t := 73) (cs := #[.string s.code, .int .i64 s.len, p0, .int .i64 s.last]) rfl
  have hX1 := Blk.newAt (w := (w.alloc (.cells #[.string s.code, .int .i64 s.len, p0, .int .i64 s.last] 73))) (n := w.heap.size + 1) (t := 76) (cs := #[.string ⟨#[]⟩, .int .i64 0, .slice none 0 0, .int .i64 0]) (by simp)
  have hX2 := Blk.newAt (w := ((w.alloc (.cells #[.string s.code, .int .i64 s.len, p0, .int .i64 s.last] 73)).alloc (.cells #[.string ⟨#[]⟩, .int .i64 0, .slice none 0 0, .int .i64 0] 76))) (n := w.heap.size + 1 + 1) (t := 76) (cs := #[.string s.code, .int .i64 s.len, .slice none 0 0, .int .i64 0]) (by simp)
  replace hX0 := (hX0.alloc (.cells #[.string ⟨#[]⟩, .int .i64 0, .slice none 0 0, .int .i64 0] 76)).alloc (.cells #[.string s.code, .int .i64 s.len, .slice none 0 0, .int .i64 0] 76)
  replace hX1 := hX1.alloc (.cells #[.string s.code, .int .i64 s.len, .slice none 0 0, .int .i64 0] 76)
  have hbW : Below w.heap.size w (((w.alloc (.cells #[.string s.code, .int .i64 s.len, p0, .int .i64 s.last] 73)).alloc (.cells #[.string ⟨#[]⟩, .int .i64 0, .slice none 0 0, .int .i64 0] 76)).alloc (.cells #[.string s.code, .int .i64 s.len, .slice none 0 0, .int .i64 0] 76)) := (((Below.refl _ _).alloc (Nat.le_refl _) _).alloc (by simp) _).alloc (by first | omega | (simp; done) | (simp; omega)) _
  have hzW : (((w.alloc (.cells #[.string s.code, .int .i64 s.len, p0, .int .i64 s.last] 73)).alloc (.cells #[.string ⟨#[]⟩, .int .i64 0, .slice none 0 0, .int .i64 0] 76)).alloc (.cells #[.string s.code, .int .i64 s.len, .slice none 0 0, .int .i64 0] 76)).heap.size = w.heap.size + 3 := by simp
  generalize hW : (((w.alloc (.cells #[.string s.code, .int .i64 s.len, p0, .int .i64 s.last] 73)).alloc (.cells #[.string ⟨#[]⟩, .int .i64 0, .slice none 0 0, .int .i64 0] 76)).alloc (.cells #[.string s.code, .int .i64 s.len, .slice none 0 0, .int .i64 0] 76)) = W0 at *
  clear hW
  replace h0 := h0.below hbW hh
  refine (toStringS_any p0 s.people _ _ _ h0 (by (first | omega | (simp; omega) | (simp; done))) (by omega)).mono ?_
  rintro e w1 ⟨y0, rfl, hy0, b1⟩
  obtain ⟨Y0, Z0, rfl, hZ0⟩ := hy0.form
  have z1 := b1.size
  replace hX0 := hX0.below b1 (by omega)
  replace hX1 := hX1.below b1 (by omega)
  replace hX2 := hX2.below b1 (by omega)
  replace hbW := Below.step b1 (by omega) hbW
  obtain ⟨q0_0, q0_1, q0_2, q0_3⟩ := hX0.c4
  obtain ⟨r0_0, r0_1, r0_2, r0_3⟩ := hX1.c4
  obtain ⟨s0_0, s0_1, s0_2, s0_3⟩ := hX2.c4
  have f0_0 := hX1.frozen 0
  have g0_0 := hX2.frozen 0
  have f0_1 := hX1.frozen 1
  have g0_1 := hX2.frozen 1
  have f0_2 := hX1.frozen 2
  have g0_2 := hX2.frozen 2
  have f0_3 := hX1.frozen 3
  have g0_3 := hX2.frozen 3
  go_wp2_with fail
  refine bodyPost_ret (v := .agg #[.string s.code, .int .i64 s.len, .slice Y0 s.people.length Z0, .int .i64 s.last]) (by simp [results, Tryz.results67, go_sem, *]) rfl ⟨_, rfl, ?_, ?_⟩
  · refine RdW.wide (lo := W0.heap.size) (hi := w1.heap.size) ?_ (by omega) (by first | (simp; done) | (simp; omega))
    (repeat (refine RdW.set ?_ (by first | omega | (simp; done) | (simp; omega)) _)); exact hy0
  · (repeat (first | with_reducible assumption | with_reducible exact Below.refl _ _ | with_reducible refine Below.setCell ?_ ?_ _ | with_reducible refine Below.alloc ?_ ?_ _ | with_reducible refine Below.drew ?_ | with_reducible refine below_drewN ?_ _ | with_reducible refine Below.step (by with_reducible assumption) ?_ ?_ | omega | (simp <;> omega) | (simp; done)))

set_option maxRecDepth 100000 in
set_option maxHeartbeats 2000000 in
theorem eqHearing_any (s t : Hearing) (p0 p0' : Value) (lo hi lo' hi' : Nat) (w : World) (h0 : RdF encStr 1 w lo hi p0 s.people) (hh : hi ≤ w.heap.size) (h0' : RdF encStr 1 w lo' hi' p0' t.people) (hh' : hi' ≤ w.heap.size) (hs : s.small) (ht : t.small) :
    Calls Tryz.prog 72 #[.agg #[.string s.code, .int .i64 s.len, p0, .int .i64 s.last], .agg #[.string t.code, .int .i64 t.len, p0', .int .i64 t.last]] w fun e w' => e = .returned (.bool (Hearing.beq s t)) ∧ Below w.heap.size w w' := by
  have hl0 := hs.len0
  have hl0' := ht.len0
  have kA := (Blk.newAt (w := w) (n := w.heap.size) (t := 76) (cs := #[.string s.code, .int .i64 s.len, p0, .int .i64 s.last]) rfl).alloc (.cells #[.string t.code, .int .i64 t.len, p0', .int .i64 t.last] 76)
  have kB := Blk.newAt (w := w.alloc (.cells #[.string s.code, .int .i64 s.len, p0, .int .i64 s.last] 76)) (n := w.heap.size + 1) (t := 76) (cs := #[.string t.code, .int .i64 t.len, p0', .int .i64 t.last]) (by simp)
  have hbW : Below w.heap.size w ((w.alloc (.cells #[.string s.code, .int .i64 s.len, p0, .int .i64 s.last] 76)).alloc (.cells #[.string t.code, .int .i64 t.len, p0', .int .i64 t.last] 76)) := ((Below.refl _ _).alloc (Nat.le_refl _) _).alloc (by simp) _
  have hzW : ((w.alloc (.cells #[.string s.code, .int .i64 s.len, p0, .int .i64 s.last] 76)).alloc (.cells #[.string t.code, .int .i64 t.len, p0', .int .i64 t.last] 76)).heap.size = w.heap.size + 1 + 1 := by simp
  replace h0 := h0.below hbW hh
  replace h0' := h0'.below hbW hh'
  go_enter Tryz.func72, Tryz.ntmps72
  go_wp2_with fail
  · go_ret; exact ⟨ret_bool (by simp_all [Hearing.beq]), by (repeat (first | with_reducible assumption | with_reducible exact Below.refl _ _ | with_reducible refine Below.setCell ?_ ?_ _ | with_reducible refine Below.alloc ?_ ?_ _ | with_reducible refine Below.drew ?_ | with_reducible refine below_drewN ?_ _ | with_reducible refine Below.step (by with_reducible assumption) ?_ ?_ | omega | (simp <;> omega) | (simp; done)))⟩
  · go_ret; exact ⟨ret_bool (by simp_all [Hearing.beq]), by (repeat (first | with_reducible assumption | with_reducible exact Below.refl _ _ | with_reducible refine Below.setCell ?_ ?_ _ | with_reducible refine Below.alloc ?_ ?_ _ | with_reducible refine Below.drew ?_ | with_reducible refine below_drewN ?_ _ | with_reducible refine Below.step (by with_reducible assumption) ?_ ?_ | omega | (simp <;> omega) | (simp; done)))⟩
  · generalize ((w.alloc (.cells #[.string s.code, .int .i64 s.len, p0, .int .i64 s.last] 76)).alloc (.cells #[.string t.code, .int .i64 t.len, p0', .int .i64 t.last] 76)) = W0 at *
    refine (eqStringS_any p0 p0' s.people t.people _ _ _ _ _ h0 (by omega) h0' (by omega) (by omega) (by omega)).mono ?_
    rintro e w1 ⟨rfl, b1⟩
    have z1 := b1.size
    replace kA := kA.below b1 (by omega)
    replace kB := kB.below b1 (by omega)
    replace hbW := Below.step b1 (by omega) hbW
    clear b1
    obtain ⟨qa0_0, qa0_1, qa0_2, qa0_3⟩ := kA.c4
    obtain ⟨qb0_0, qb0_1, qb0_2, qb0_3⟩ := kB.c4
    cases hc0 : eqL strEq s.people t.people with
    | false =>
      go_wp2_with fail
      go_ret; exact ⟨ret_bool (by simp_all [Hearing.beq]), by (repeat (first | with_reducible assumption | with_reducible exact Below.refl _ _ | with_reducible refine Below.setCell ?_ ?_ _ | with_reducible refine Below.alloc ?_ ?_ _ | with_reducible refine Below.drew ?_ | with_reducible refine below_drewN ?_ _ | with_reducible refine Below.step (by with_reducible assumption) ?_ ?_ | omega | (simp <;> omega) | (simp; done)))⟩
    | true =>
      go_wp2_with fail
      · go_ret; exact ⟨ret_bool (by simp_all [Hearing.beq]), by (repeat (first | with_reducible assumption | with_reducible exact Below.refl _ _ | with_reducible refine Below.setCell ?_ ?_ _ | with_reducible refine Below.alloc ?_ ?_ _ | with_reducible refine Below.drew ?_ | with_reducible refine below_drewN ?_ _ | with_reducible refine Below.step (by with_reducible assumption) ?_ ?_ | omega | (simp <;> omega) | (simp; done)))⟩
      · go_ret; exact ⟨ret_bool (by simp_all [Hearing.beq]), by (repeat (first | with_reducible assumption | with_reducible exact Below.refl _ _ | with_reducible refine Below.setCell ?_ ?_ _ | with_reducible refine Below.alloc ?_ ?_ _ | with_reducible refine Below.drew ?_ | with_reducible refine below_drewN ?_ _ | with_reducible refine Below.step (by with_reducible assumption) ?_ ?_ | omega | (simp <;> omega) | (simp; done)))⟩

set_option maxRecDepth 100000 in
set_option maxHeartbeats 2000000 in
theorem szHearing_any (s : Hearing) (p0 : Value) (lo hi : Nat) (l : Int) (w : World) (h0 : RdF encStr 1 w lo hi p0 s.people) (hh : hi ≤ w.heap.size) (hg : s.big) (h0' : 0 ≤ l) (h1' : l ≤ 1048576) :
    Calls Tryz.prog 65 #[.agg #[.string s.code, .int .i64 s.len, p0, .int .i64 s.last], .int .i64 l] w fun e w' => RetI (Hearing.Sz l s) w e w' := by
  obtain ⟨g0, g1, g2⟩ := hg
  have kA := Blk.newAt (w := w) (n := w.heap.size) (t := 73) (cs := #[.string s.code, .int .i64 s.len, p0, .int .i64 s.last]) rfl
  have hbW : Below w.heap.size w (w.alloc (.cells #[.string s.code, .int .i64 s.len, p0, .int .i64 s.last] 73)) := (Below.refl _ _).alloc (Nat.le_refl _) _
  have hzW : (w.alloc (.cells #[.string s.code, .int .i64 s.len, p0, .int .i64 s.last] 73)).heap.size = w.heap.size + 1 := by simp
  replace h0 := h0.below hbW hh
  by_cases hc_code : l - s.code.size < 0
  · go_enter Tryz.func65, Tryz.ntmps65
    go_wp2_with fail
    go_ret
    exact ⟨_, rfl, ⟨by omega, by omega⟩, by (repeat (first | with_reducible assumption | with_reducible exact Below.refl _ _ | with_reducible refine Below.setCell ?_ ?_ _ | with_reducible refine Below.alloc ?_ ?_ _ | with_reducible refine Below.drew ?_ | with_reducible refine below_drewN ?_ _ | with_reducible refine Below.step (by with_reducible assumption) ?_ ?_ | omega | (simp <;> omega) | (simp; done)))⟩
  go_enter Tryz.func65, Tryz.ntmps65
  go_wp2_with fail
  generalize w.alloc (.cells #[.string s.code, .int .i64 s.len, p0, .int .i64 s.last] 73) = W0 at *
  refine (szStringS_any p0 s.people _ _ _ _ h0 (by omega) (by omega) (fun y hy => by have := g2 y hy; omega) (by omega) (by omega)).mono ?_
  rintro e w1 ⟨r0, rfl, ⟨ra0, rb0⟩, b1⟩
  have z1 := b1.size
  replace kA := kA.below b1 (by omega)
  replace hbW := Below.step b1 (by omega) hbW
  clear b1
  by_cases hn0 : r0 < 0
  · go_wp2_with fail
    go_ret
    exact ⟨_, rfl, ⟨by omega, by omega⟩, by (repeat (first | with_reducible assumption | with_reducible exact Below.refl _ _ | with_reducible refine Below.setCell ?_ ?_ _ | with_reducible refine Below.alloc ?_ ?_ _ | with_reducible refine Below.drew ?_ | with_reducible refine below_drewN ?_ _ | with_reducible refine Below.step (by with_reducible assumption) ?_ ?_ | omega | (simp <;> omega) | (simp; done)))⟩
  have hp0 : 0 ≤ r0 := by omega
  obtain ⟨ub0, uc0⟩ := rb0 hp0
  clear rb0
  obtain ⟨qa0_0, qa0_1, qa0_2, qa0_3⟩ := kA.c4
  go_wp2_with fail
  go_ret
  exact ⟨_, rfl, ⟨by omega, fun _ => ⟨⟨by omega, by omega, fun y hy => by have := uc0 y hy; omega⟩, by unfold Hearing.wt; omega⟩⟩, by (repeat (first | with_reducible assumption | with_reducible exact Below.refl _ _ | with_reducible refine Below.setCell ?_ ?_ _ | with_reducible refine Below.alloc ?_ ?_ _ | with_reducible refine Below.drew ?_ | with_reducible refine below_drewN ?_ _ | with_reducible refine Below.step (by with_reducible assumption) ?_ ?_ | omega | (simp <;> omega) | (simp; done)))⟩

theorem RdHearing.at {w w' : World} {lo hi B : Nat} {A : Option Addr} {n c : Nat} {rs : List HearingR} {k : Nat} (h : RdF HearingR.enc 4 w lo hi (.slice A n c) rs) (hb : Below B w w') (hB : hi ≤ B) (hk : k < rs.length) :
    ∃ (r : HearingR) (b off : Nat), Hid (rs[k]? = some r) ∧ A = some ⟨b, off, none⟩ ∧ lo ≤ b ∧ b < hi ∧ w'.cell? ⟨b, off + k * 4, none⟩ = some (.string r.h.code) ∧ w'.cell? ⟨b, off + k * 4 + 1, none⟩ = some (.int .i64 r.h.len) ∧ w'.cell? ⟨b, off + k * 4 + 2, none⟩ = some (r.p0) ∧ w'.cell? ⟨b, off + k * 4 + 3, none⟩ = some (.int .i64 r.h.last) := by
  obtain ⟨r, b, off, h1, h2, h3, h4, h5⟩ := h.get hb hB hk
  exact ⟨r, b, off, h1, h2, h3, h4, h5 0 _ rfl, h5 1 _ rfl, h5 2 _ rfl, h5 3 _ rfl⟩
set_option maxRecDepth 100000 in
set_option maxHeartbeats 2000000 in
theorem toHearingS_any (v : Value) (xs : List Hearing) (lo hi : Nat) (w : World) (h : RdHearing w lo hi v xs) (hh : hi ≤ w.heap.size) (hm : xs.length ≤ 1048576) (hms : ∀ x ∈ xs, Hearing.small x) :
    Calls Tryz.prog 27 #[v] w fun e w' => RetV (fun v' w' => RdWHearing w' w.heap.size w'.heap.size v' xs) w e w' := by
  obtain ⟨rs, rfl, hR, hP⟩ := h
  rw [List.length_map] at hm
  obtain ⟨A, c, rfl, hc⟩ := hR.form
  obtain ⟨arr, ha, hmk⟩ := mkRow (P := Tryz.prog) 24 76 Tryz.underlying24 (.agg #[.string ⟨#[]⟩, .int .i64 0, .slice none 0 0, .int .i64 0]) 4 56 (by kernel_rfl) rs.length (by omega) (by omega)
  have HR := Lib.hid ha; clear ha
  have HP := Lib.hid hP; clear hP
  have HM := Lib.hid hms; clear hms
  go_enter Tryz.func27, Tryz.ntmps27
  go_wp2
  clear hmk
  go_loopw [4] (fun i wr => ∃ k : Nat, k ≤ rs.length ∧ i = .int .i64 k ∧ ∃ (ar : Array Value) (qs : List HearingR), Hid (ar.size = rs.length * 4) ∧ Hid (qs.map HearingR.h = (rs.map HearingR.h).take k) ∧ Hid (RowTo HearingR.enc 4 ar qs k) ∧ Hid (∀ r ∈ qs, RdW encStr 1 9 wr w.heap.size wr.heap.size r.p0 r.h.people) ∧ Blk wr w.heap.size 76 ar ∧ Below w.heap.size w wr) (fun i _ => rs.length - (intOf i).toNat)
  case atStart => exact ⟨0, Nat.zero_le _, rfl, arr, [], HR, rfl, RowTo.zero, fun r hr => absurd hr (by simp), Blk.new _ _ _, by (repeat (first | with_reducible assumption | with_reducible exact Below.refl _ _ | with_reducible refine Below.setCell ?_ ?_ _ | with_reducible refine Below.alloc ?_ ?_ _ | with_reducible refine Below.drew ?_ | with_reducible refine below_drewN ?_ _ | with_reducible refine Below.step (by with_reducible assumption) ?_ ?_ | omega | (simp <;> omega) | (simp; done)))⟩
  case round =>
    obtain ⟨k, hk, rfl, ar, qs, hsz, HQ, hrow, hwr, hblk, hb⟩ := hrel
    have z0 := hb.size
    have z1 := hblk.lt
    by_cases hlt : k < rs.length
    · obtain ⟨r, b, off, HS, rfl, -, hbw, c0, c1, c2, c3⟩ := RdHearing.at hR hb hh hlt
      have hrm := List.mem_of_getElem? HS.out
      have hsm := HM.out r.h (List.mem_map.2 ⟨r, hrm, rfl⟩)
      have HPr := Lib.hid (HP.out r hrm)
      clear hrm
      have hki : (k : Int) < (rs.length : Int) := by omega
      go_wp2_with fail
      refine (toHearing_any r.h r.p0 lo hi _ (HPr.out.below hb hh) (by omega) hsm).mono ?_
      rintro e w1 ⟨y0, rfl, hy0, hb1⟩
      obtain ⟨Y0, Z0, rfl, hZ0⟩ := hy0.form
      have zz := hb1.size
      have hk1 := hblk.below hb1 z1
      obtain ⟨u0, f0⟩ := hk1.some_ (k * 4) (by have := hsz.out; omega)
      have g0 := hk1.frozen (k * 4)
      obtain ⟨u1, f1⟩ := hk1.some_ (k * 4 + 1) (by have := hsz.out; omega)
      have g1 := hk1.frozen (k * 4 + 1)
      obtain ⟨u2, f2⟩ := hk1.some_ (k * 4 + 2) (by have := hsz.out; omega)
      have g2 := hk1.frozen (k * 4 + 2)
      obtain ⟨u3, f3⟩ := hk1.some_ (k * 4 + 3) (by have := hsz.out; omega)
      have g3 := hk1.frozen (k * 4 + 3)
      go_wp2_with fail
      go_roundw
      case rel =>
        have hql : qs.length = k := by have := congrArg List.length HQ.out; simp at this; omega
        refine ⟨k + 1, by omega, by go_num, setL ar (k * 4) (HearingR.enc ⟨r.h, .slice Y0 r.h.people.length Z0⟩), qs ++ [⟨r.h, .slice Y0 r.h.people.length Z0⟩], (setL_size _ _ _).trans hsz.out, ?_, ?_, ?_, ?_, ?_⟩
        · show _ = _
          rw [List.map_append, HQ.out, List.take_add_one, map_at (f := HearingR.h) rfl HS.out]; rfl
        · have hrow' := hrow.out; subst hql
          exact RowTo.snoc hrow' (fun _ => rfl) (by have := hsz.out; have := Nat.mul_le_mul_right 4 hlt; omega)
        · intro r' hr'
          rcases List.mem_append.1 hr' with hr' | hr'
          · have h3 := hwr.out r' hr'
            exact ((h3).mono_blk (fun g ar' hg => by have hne := hg.ne hblk (by decide); exact ((((hg.below hb1 hg.lt).far hne _).far hne _).far hne _).far hne _)).wide (Nat.le_refl _) (by first | omega | (simp; done) | (simp; omega))
          · simp at hr'; subst hr'
            exact (((((hy0).set (.inl (by show w.heap.size < _; omega)) _).set (.inl (by show w.heap.size < _; omega)) _).set (.inl (by show w.heap.size < _; omega)) _).set (.inl (by show w.heap.size < _; omega)) _).wide (lo := wr.heap.size) z0 (by simp)
        · exact hk1.set4 _ _ _ _ _
        · exact Below.set4 (Below.step hb1 z0 hb) (Nat.le_refl _) _ _ _ _ _
      case measure => simp [intOf]; omega
    · obtain rfl : k = rs.length := by omega
      go_wp2
      go_ret
      have hql : qs.length = rs.length := by have := congrArg List.length HQ.out; simp at this; omega
      refine ⟨_, rfl, ⟨qs, by rw [HQ.out, ← List.length_map (f := HearingR.h), List.take_length], ?_, hwr.out⟩, hb⟩
      have h4 := RdW.of_row (t := 76) (xs := qs) hblk (by rw [hql]; exact hsz.out) (by rw [hql]; exact hrow.out) w.heap.size wr.heap.size (Nat.le_refl _) z1
      rwa [hql] at h4

set_option maxRecDepth 100000 in
set_option maxHeartbeats 2000000 in
theorem eqHearingS_any (v v' : Value) (xs ys : List Hearing) (lo hi lo' hi' : Nat) (w : World) (h : RdHearing w lo hi v xs) (hh : hi ≤ w.heap.size) (h' : RdHearing w lo' hi' v' ys) (hh' : hi' ≤ w.heap.size) (hm : xs.length ≤ 1048576) (hm' : ys.length ≤ 1048576) (hms : ∀ x ∈ xs, Hearing.small x) (hms' : ∀ x ∈ ys, Hearing.small x) :
    Calls Tryz.prog 32 #[v, v'] w fun e w' => e = .returned (.bool (eqL Hearing.beq xs ys)) ∧ Below w.heap.size w w' := by
  obtain ⟨rs, rfl, hR, hP⟩ := h
  obtain ⟨ts, rfl, hR', hP'⟩ := h'
  rw [List.length_map] at hm hm'
  obtain ⟨A, c, rfl, hc⟩ := hR.form
  obtain ⟨A', c', rfl, hc'⟩ := hR'.form
  have HP := Lib.hid hP; clear hP
  have HP' := Lib.hid hP'; clear hP'
  have HM := Lib.hid hms; clear hms
  have HM' := Lib.hid hms'; clear hms'
  by_cases hlen : rs.length = ts.length
  · have hne : ((rs.length : Int) != (ts.length : Int)) = false := by simp [hlen]
    go_enter Tryz.func32, Tryz.ntmps32
    go_wp2
    go_loopw [5] (fun i wr => ∃ k : Nat, k ≤ rs.length ∧ i = .int .i64 k ∧ Hid (eqL Hearing.beq ((rs.map HearingR.h).take k) ((ts.map HearingR.h).take k) = true) ∧ Below w.heap.size w wr) (fun i _ => rs.length - (intOf i).toNat)
    case atStart => exact ⟨0, Nat.zero_le _, rfl, rfl, by (repeat (first | with_reducible assumption | with_reducible exact Below.refl _ _ | with_reducible refine Below.setCell ?_ ?_ _ | with_reducible refine Below.alloc ?_ ?_ _ | with_reducible refine Below.drew ?_ | with_reducible refine below_drewN ?_ _ | with_reducible refine Below.step (by with_reducible assumption) ?_ ?_ | omega | (simp <;> omega) | (simp; done)))⟩
    case round =>
      obtain ⟨k, hk, rfl, HE, hb⟩ := hrel
      have HL := Lib.hid hlen; clear hlen
      have z0 := hb.size
      by_cases hlt : k < rs.length
      · have hlt' : k < ts.length := by rw [← HL.out]; exact hlt
        obtain ⟨r, b, off, HS, rfl, -, hbw, c0, c1, c2, c3⟩ := RdHearing.at hR hb hh hlt
        obtain ⟨t, b', off', HS', rfl, -, hbw', d0, d1, d2, d3⟩ := RdHearing.at hR' hb hh' hlt'
        have hrm := List.mem_of_getElem? HS.out
        have htm := List.mem_of_getElem? HS'.out
        have hsm := HM.out r.h (List.mem_map.2 ⟨r, hrm, rfl⟩)
        have hsm' := HM'.out t.h (List.mem_map.2 ⟨t, htm, rfl⟩)
        have HPr := Lib.hid (HP.out r hrm)
        have HPt := Lib.hid (HP'.out t htm)
        clear hrm htm
        have hki : (k : Int) < (rs.length : Int) := by omega
        have hki' : (k : Int) < (ts.length : Int) := by omega
        have hbd : Below w.heap.size w wr.drew := hb.drew
        have hzd : wr.drew.heap.size = wr.heap.size := rfl
        go_wp2_with fail
        go_still_tail 8, (by kernel_rfl)
        change wpList _ _ _ _ _ wr.drew
        go_wp2_with (go_at_call 72; refine (eqHearing_any r.h t.h r.p0 t.p0 lo hi lo' hi' _ (HPr.out.below hbd hh) (by omega) (HPt.out.below hbd hh') (by omega) hsm hsm').mono ?_; rintro e w1 ⟨rfl, hb1⟩)
        · have hf : (!Hearing.beq r.h t.h) = true := by assumption
          go_ret
          exact ⟨ret_bool (by rw [eqL_false (map_at (f := HearingR.h) rfl HS.out) (map_at (f := HearingR.h) rfl HS'.out) (by simpa using hf)]), by (repeat (first | with_reducible assumption | with_reducible exact Below.refl _ _ | with_reducible refine Below.setCell ?_ ?_ _ | with_reducible refine Below.alloc ?_ ?_ _ | with_reducible refine Below.drew ?_ | with_reducible refine below_drewN ?_ _ | with_reducible refine Below.step (by with_reducible assumption) ?_ ?_ | omega | (simp <;> omega) | (simp; done)))⟩
        · have hf : (!Hearing.beq r.h t.h) = false := by assumption
          go_roundw
          case rel => exact ⟨k + 1, by omega, by go_num, eqL_succ HE.out (map_at (f := HearingR.h) rfl HS.out) (map_at (f := HearingR.h) rfl HS'.out) (by simpa using hf), by (repeat (first | with_reducible assumption | with_reducible exact Below.refl _ _ | with_reducible refine Below.setCell ?_ ?_ _ | with_reducible refine Below.alloc ?_ ?_ _ | with_reducible refine Below.drew ?_ | with_reducible refine below_drewN ?_ _ | with_reducible refine Below.step (by with_reducible assumption) ?_ ?_ | omega | (simp <;> omega) | (simp; done)))⟩
          case measure => simp [intOf]; omega
      · go_wp2
        go_ret
        exact ⟨ret_bool (by rw [eqL_of_take HE.out (by rw [List.length_map]; exact hlt) (by rw [List.length_map, List.length_map]; exact HL.out)]), by (repeat (first | with_reducible assumption | with_reducible exact Below.refl _ _ | with_reducible refine Below.setCell ?_ ?_ _ | with_reducible refine Below.alloc ?_ ?_ _ | with_reducible refine Below.drew ?_ | with_reducible refine below_drewN ?_ _ | with_reducible refine Below.step (by with_reducible assumption) ?_ ?_ | omega | (simp <;> omega) | (simp; done)))⟩
  · have hne : ((rs.length : Int) != (ts.length : Int)) = true := by simp; omega
    go_enter Tryz.func32, Tryz.ntmps32
    go_wp2
    go_ret
    exact ⟨ret_bool (by rw [eqL_len _ (by rw [List.length_map, List.length_map]; exact hlen)]), by (repeat (first | with_reducible assumption | with_reducible exact Below.refl _ _ | with_reducible refine Below.setCell ?_ ?_ _ | with_reducible refine Below.alloc ?_ ?_ _ | with_reducible refine Below.drew ?_ | with_reducible refine below_drewN ?_ _ | with_reducible refine Below.step (by with_reducible assumption) ?_ ?_ | omega | (simp <;> omega) | (simp; done)))⟩

set_option maxRecDepth 100000 in
set_option maxHeartbeats 2000000 in
theorem szHearingS_any (v : Value) (xs : List Hearing) (lo hi : Nat) (l : Int) (w : World) (h : RdHearing w lo hi v xs) (hh : hi ≤ w.heap.size) (hm : xs.length ≤ 9223372036854775807) (hms : ∀ x ∈ xs, Hearing.big x) (h0 : 0 ≤ l) (h1 : l ≤ 1048576) :
    Calls Tryz.prog 23 #[v, .int .i64 l] w fun e w' => RetI (Hearing.SzS l xs) w e w' := by
  obtain ⟨rs, rfl, hR, hP⟩ := h
  rw [List.length_map] at hm
  obtain ⟨A, c, rfl, hc⟩ := hR.form
  have HP := Lib.hid hP; clear hP
  have HM := Lib.hid hms; clear hms
  by_cases hl : l < rs.length
  · go_enter Tryz.func23, Tryz.ntmps23
    go_wp2
    go_ret
    exact ⟨_, rfl, ⟨by omega, by omega⟩, by (repeat (first | with_reducible assumption | with_reducible exact Below.refl _ _ | with_reducible refine Below.setCell ?_ ?_ _ | with_reducible refine Below.alloc ?_ ?_ _ | with_reducible refine Below.drew ?_ | with_reducible refine below_drewN ?_ _ | with_reducible refine Below.step (by with_reducible assumption) ?_ ?_ | omega | (simp <;> omega) | (simp; done)))⟩
  · go_enter Tryz.func23, Tryz.ntmps23
    go_wp2
    go_loopw [1, 5] (fun q i wr => ∃ k : Nat, k ≤ rs.length ∧ i = .int .i64 k ∧ ∃ r : Int, q = .int .i64 r ∧ 0 ≤ r ∧ r + (Hearing.wts ((rs.map HearingR.h).take k) : Int) ≤ l - rs.length ∧ Hid (∀ x ∈ (rs.map HearingR.h).take k, Hearing.by_ l x) ∧ Below w.heap.size w wr) (fun _ i _ => rs.length - (intOf i).toNat)
    case atStart => exact ⟨0, Nat.zero_le _, rfl, _, rfl, by omega, by first | omega | (simp [Hearing.wts]; done) | (simp [Hearing.wts]; omega), fun x hx => absurd hx (by simp), by (repeat (first | with_reducible assumption | with_reducible exact Below.refl _ _ | with_reducible refine Below.setCell ?_ ?_ _ | with_reducible refine Below.alloc ?_ ?_ _ | with_reducible refine Below.drew ?_ | with_reducible refine below_drewN ?_ _ | with_reducible refine Below.step (by with_reducible assumption) ?_ ?_ | omega | (simp <;> omega) | (simp; done)))⟩
    case round =>
      obtain ⟨k, hk, rfl, q, rfl, hr0, hr1, HA, hb⟩ := hrel
      have z0 := hb.size
      by_cases hlt : k < rs.length
      · obtain ⟨r, b, off, HS, rfl, -, hbw, c0, c1, c2, c3⟩ := RdHearing.at hR hb hh hlt
        have hrm := List.mem_of_getElem? HS.out
        have hsm := HM.out r.h (List.mem_map.2 ⟨r, hrm, rfl⟩)
        have HPr := Lib.hid (HP.out r hrm)
        clear hrm
        have hki : (k : Int) < (rs.length : Int) := by omega
        go_wp2_with fail
        refine (szHearing_any r.h r.p0 lo hi q _ (HPr.out.below hb hh) (by omega) hsm (by omega) (by omega)).mono ?_
        rintro e w1 ⟨u, rfl, ⟨hq1, hq2⟩, hb1⟩
        have HQ := Lib.hid hq2; clear hq2
        by_cases hu : u < 0
        · go_wp2_with fail
          go_ret
          exact ⟨_, rfl, ⟨by omega, by omega⟩, by (repeat (first | with_reducible assumption | with_reducible exact Below.refl _ _ | with_reducible refine Below.setCell ?_ ?_ _ | with_reducible refine Below.alloc ?_ ?_ _ | with_reducible refine Below.drew ?_ | with_reducible refine below_drewN ?_ _ | with_reducible refine Below.step (by with_reducible assumption) ?_ ?_ | omega | (simp <;> omega) | (simp; done)))⟩
        · go_wp2_with fail
          go_roundw
          case rel => exact ⟨k + 1, by omega, by go_num, _, rfl, by omega, by have h9 := (HQ.out (by omega)).2; have h8 := Hearing.wts_succ (map_at (f := HearingR.h) rfl HS.out); omega, take_forall_succ HA.out (map_at (f := HearingR.h) rfl HS.out) (Hearing.by_up (HQ.out (by omega)).1 (by omega)), by (repeat (first | with_reducible assumption | with_reducible exact Below.refl _ _ | with_reducible refine Below.setCell ?_ ?_ _ | with_reducible refine Below.alloc ?_ ?_ _ | with_reducible refine Below.drew ?_ | with_reducible refine below_drewN ?_ _ | with_reducible refine Below.step (by with_reducible assumption) ?_ ?_ | omega | (simp <;> omega) | (simp; done)))⟩
          case measure => simp [intOf]; omega
      · obtain rfl : k = rs.length := by omega
        go_wp2
        go_ret
        refine ⟨_, rfl, ⟨by omega, fun _ => ⟨by rw [List.length_map]; omega, ?_, ?_⟩⟩, by (repeat (first | with_reducible assumption | with_reducible exact Below.refl _ _ | with_reducible refine Below.setCell ?_ ?_ _ | with_reducible refine Below.alloc ?_ ?_ _ | with_reducible refine Below.drew ?_ | with_reducible refine below_drewN ?_ _ | with_reducible refine Below.step (by with_reducible assumption) ?_ ?_ | omega | (simp <;> omega) | (simp; done)))⟩
        · have this_ := HA.out
          rwa [← List.length_map (f := HearingR.h), List.take_length] at this_
        · have h9 := hr1
          rw [← List.length_map (f := HearingR.h), List.take_length, List.length_map] at h9
          omega

end Go.Proofs.YtgpknnlphabpkaaGreat
