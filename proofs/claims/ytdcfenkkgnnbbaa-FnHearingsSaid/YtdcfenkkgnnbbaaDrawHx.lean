/- Draws of the law of hearings. Written by a program (gen_drawhx.py). -/
import Derived.Test.YtdcfenkkgnnbbaaDrawHl
import Derived.Test.YtdcfenkkgnnbbaaDrawSl
import Derived.Test.YtdcfenkkgnnbbaaSlotA
import Derived.Deep.QuietTactic
import Derived.BigQuiet
import Derived.BigRegion
import Derived.RegionTactic
namespace Go.Proofs.Ytdcfenkkgnnbbaa
open Go.RowKit
set_option linter.unusedVariables false

set_option maxRecDepth 100000 in
set_option maxHeartbeats 4000000 in
theorem drawDoClash_any (v : Value) (bs : List Int) (lo hi : Nat) (w : World) (h : RdF encByte 1 w lo hi v bs) (hh : hi ≤ w.heap.size) (hm : bs.length ≤ 4096) (hb : ∀ x ∈ bs, 0 ≤ x ∧ x ≤ 255) :
    Calls Try.prog 50 #[v] w fun e w' => ∃ (a b : Hearing) (pa pb : Value) (s t : Slot), e = .returned (.tuple #[.agg #[.string a.code, .int .i64 a.len, pa, .int .i64 a.last], .agg #[.int .i64 s.room, .int .i64 s.day, .int .i64 s.frm], .agg #[.string b.code, .int .i64 b.len, pb, .int .i64 b.last], .agg #[.int .i64 t.room, .int .i64 t.day, .int .i64 t.frm]]) ∧ Hearing.by_ 64 a ∧ RdF encStr 1 w' w.heap.size w'.heap.size pa a.people ∧ Hearing.by_ 64 b ∧ RdF encStr 1 w' w.heap.size w'.heap.size pb b.people ∧ Below w.heap.size w w' := by
  have bb : Below w.heap.size w w := Below.refl _ _
  go_enter Try.func50, Try.ntmps50
  go_wp2_with fail
  have b1 : Below w.heap.size w (w.alloc (.cells #[.string ⟨#[]⟩, .int .i64 0, .slice none 0 0, .int .i64 0] 30)) := (Below.refl _ _).alloc (Nat.le_refl _) _
  have zz1 : (w.alloc (.cells #[.string ⟨#[]⟩, .int .i64 0, .slice none 0 0, .int .i64 0] 30)).heap.size = w.heap.size + 1 := by simp
  have kR0 : Blk (w.alloc (.cells #[.string ⟨#[]⟩, .int .i64 0, .slice none 0 0, .int .i64 0] 30)) (w.heap.size) 30 #[.string ⟨#[]⟩, .int .i64 0, .slice none 0 0, .int .i64 0] := Blk.newAt rfl
  have zb1 := b1.size
  replace h := h.below b1 (by omega)
  replace bb := Below.step b1 (by omega) bb
  clear b1
  generalize (w.alloc (.cells #[.string ⟨#[]⟩, .int .i64 0, .slice none 0 0, .int .i64 0] 30)) = w1 at *
  have b2 : Below w1.heap.size w1 (w1.alloc (.cells #[.int .i64 0, .int .i64 0, .int .i64 0] 32)) := (Below.refl _ _).alloc (Nat.le_refl _) _
  have zz2 : (w1.alloc (.cells #[.int .i64 0, .int .i64 0, .int .i64 0] 32)).heap.size = w1.heap.size + 1 := by simp
  have kR1 : Blk (w1.alloc (.cells #[.int .i64 0, .int .i64 0, .int .i64 0] 32)) (w.heap.size + 1) 32 #[.int .i64 0, .int .i64 0, .int .i64 0] := Blk.newAt (by omega)
  have zb2 := b2.size
  replace h := h.below b2 (by omega)
  replace bb := Below.step b2 (by omega) bb
  replace kR0 := kR0.below b2 (by omega)
  clear b2
  generalize (w1.alloc (.cells #[.int .i64 0, .int .i64 0, .int .i64 0] 32)) = w2 at *
  have b3 : Below w2.heap.size w2 (w2.alloc (.cells #[.string ⟨#[]⟩, .int .i64 0, .slice none 0 0, .int .i64 0] 30)) := (Below.refl _ _).alloc (Nat.le_refl _) _
  have zz3 : (w2.alloc (.cells #[.string ⟨#[]⟩, .int .i64 0, .slice none 0 0, .int .i64 0] 30)).heap.size = w2.heap.size + 1 := by simp
  have kR2 : Blk (w2.alloc (.cells #[.string ⟨#[]⟩, .int .i64 0, .slice none 0 0, .int .i64 0] 30)) (w.heap.size + 2) 30 #[.string ⟨#[]⟩, .int .i64 0, .slice none 0 0, .int .i64 0] := Blk.newAt (by omega)
  have zb3 := b3.size
  replace h := h.below b3 (by omega)
  replace bb := Below.step b3 (by omega) bb
  replace kR0 := kR0.below b3 (by omega)
  replace kR1 := kR1.below b3 (by omega)
  clear b3
  generalize (w2.alloc (.cells #[.string ⟨#[]⟩, .int .i64 0, .slice none 0 0, .int .i64 0] 30)) = w3 at *
  have b4 : Below w3.heap.size w3 (w3.alloc (.cells #[.int .i64 0, .int .i64 0, .int .i64 0] 32)) := (Below.refl _ _).alloc (Nat.le_refl _) _
  have zz4 : (w3.alloc (.cells #[.int .i64 0, .int .i64 0, .int .i64 0] 32)).heap.size = w3.heap.size + 1 := by simp
  have kR3 : Blk (w3.alloc (.cells #[.int .i64 0, .int .i64 0, .int .i64 0] 32)) (w.heap.size + 3) 32 #[.int .i64 0, .int .i64 0, .int .i64 0] := Blk.newAt (by omega)
  have zb4 := b4.size
  replace h := h.below b4 (by omega)
  replace bb := Below.step b4 (by omega) bb
  replace kR0 := kR0.below b4 (by omega)
  replace kR1 := kR1.below b4 (by omega)
  replace kR2 := kR2.below b4 (by omega)
  clear b4
  generalize (w3.alloc (.cells #[.int .i64 0, .int .i64 0, .int .i64 0] 32)) = w4 at *
  go_wp2_with fail
  refine (l01From_any _ bs lo hi _ h (by omega) hm hb).mono ?_
  rintro e w5 ⟨q, rfl, hq, s, b5⟩
  have zb5 := b5.size
  replace h := h.below b5 (by omega)
  replace bb := Below.step b5 (by omega) bb
  replace kR0 := kR0.below b5 (by omega)
  replace kR1 := kR1.below b5 (by omega)
  replace kR2 := kR2.below b5 (by omega)
  replace kR3 := kR3.below b5 (by omega)
  clear b5
  have hql := s.lt
  clear h
  go_wp2_with fail
  refine (l19Hearing_any q ⟨#[97, 114, 115, 111, 110]⟩ _ s (by decide)).mono ?_
  rintro e w6 ⟨a, pa, rfl, ya, fa, s', c6⟩
  clear s
  have s := s'
  clear s'
  have zc6 := c6.size
  replace bb := bb.trans (c6.below (by omega) (by omega))
  replace kR0 := kR0.chg c6 (by omega) (by omega)
  replace kR1 := kR1.chg c6 (by omega) (by omega)
  replace kR2 := kR2.chg c6 (by omega) (by omega)
  replace kR3 := kR3.chg c6 (by omega) (by omega)
  clear c6
  obtain ⟨Aa, Ca, rfl, hca⟩ := fa.rd.form
  go_wp2_with fail
  have b7 : Below w6.heap.size w6 (w6.alloc (.cells #[.string a.code, .int .i64 a.len, .slice Aa a.people.length Ca, .int .i64 a.last] 30)) := (Below.refl _ _).alloc (Nat.le_refl _) _
  have zz7 : (w6.alloc (.cells #[.string a.code, .int .i64 a.len, .slice Aa a.people.length Ca, .int .i64 a.last] 30)).heap.size = w6.heap.size + 1 := by simp
  have ka : Blk (w6.alloc (.cells #[.string a.code, .int .i64 a.len, .slice Aa a.people.length Ca, .int .i64 a.last] 30)) (w6.heap.size) 30 #[.string a.code, .int .i64 a.len, .slice Aa a.people.length Ca, .int .i64 a.last] := Blk.newAt rfl
  have zb7 := b7.size
  replace bb := Below.step b7 (by omega) bb
  replace kR0 := kR0.below b7 (by omega)
  replace kR1 := kR1.below b7 (by omega)
  replace kR2 := kR2.below b7 (by omega)
  replace kR3 := kR3.below b7 (by omega)
  replace s := s.below b7 (by omega)
  replace fa := fa.below b7 (by omega)
  clear b7
  generalize (w6.alloc (.cells #[.string a.code, .int .i64 a.len, .slice Aa a.people.length Ca, .int .i64 a.last] 30)) = w7 at *
  go_wp2_with fail
  refine (l19Hearing_any q ⟨#[98, 97, 105, 108]⟩ _ s (by decide)).mono ?_
  rintro e w8 ⟨b, pb, rfl, yb, fb, s', c8⟩
  clear s
  have s := s'
  clear s'
  have zc8 := c8.size
  replace bb := bb.trans (c8.below (by omega) (by omega))
  replace kR0 := kR0.chg c8 (by omega) (by omega)
  replace kR1 := kR1.chg c8 (by omega) (by omega)
  replace kR2 := kR2.chg c8 (by omega) (by omega)
  replace kR3 := kR3.chg c8 (by omega) (by omega)
  replace fa := fa.chg c8 (by omega) (by omega)
  replace ka := ka.chg c8 (by omega) (by omega)
  clear c8
  obtain ⟨Ab, Cb, rfl, hcb⟩ := fb.rd.form
  go_wp2_with fail
  have b9 : Below w8.heap.size w8 (w8.alloc (.cells #[.string b.code, .int .i64 b.len, .slice Ab b.people.length Cb, .int .i64 b.last] 30)) := (Below.refl _ _).alloc (Nat.le_refl _) _
  have zz9 : (w8.alloc (.cells #[.string b.code, .int .i64 b.len, .slice Ab b.people.length Cb, .int .i64 b.last] 30)).heap.size = w8.heap.size + 1 := by simp
  have kb : Blk (w8.alloc (.cells #[.string b.code, .int .i64 b.len, .slice Ab b.people.length Cb, .int .i64 b.last] 30)) (w8.heap.size) 30 #[.string b.code, .int .i64 b.len, .slice Ab b.people.length Cb, .int .i64 b.last] := Blk.newAt rfl
  have zb9 := b9.size
  replace bb := Below.step b9 (by omega) bb
  replace kR0 := kR0.below b9 (by omega)
  replace kR1 := kR1.below b9 (by omega)
  replace kR2 := kR2.below b9 (by omega)
  replace kR3 := kR3.below b9 (by omega)
  replace s := s.below b9 (by omega)
  replace fa := fa.below b9 (by omega)
  replace ka := ka.below b9 (by omega)
  replace fb := fb.below b9 (by omega)
  clear b9
  generalize (w8.alloc (.cells #[.string b.code, .int .i64 b.len, .slice Ab b.people.length Cb, .int .i64 b.last] 30)) = w9 at *
  go_wp2_with fail
  refine (l19SlotsN_any q 2 _ s (by omega) (by omega)).mono ?_
  rintro e w10 ⟨vs, ps, rfl, hp1, hp2, h3, s', c10⟩
  clear s
  have s := s'
  clear s'
  have zc10 := c10.size
  replace bb := bb.trans (c10.below (by omega) (by omega))
  replace kR0 := kR0.chg c10 (by omega) (by omega)
  replace kR1 := kR1.chg c10 (by omega) (by omega)
  replace kR2 := kR2.chg c10 (by omega) (by omega)
  replace kR3 := kR3.chg c10 (by omega) (by omega)
  replace fa := fa.chg c10 (by omega) (by omega)
  replace ka := ka.chg c10 (by omega) (by omega)
  replace fb := fb.chg c10 (by omega) (by omega)
  replace kb := kb.chg c10 (by omega) (by omega)
  clear c10
  obtain ⟨A3, C3, rfl, hc3⟩ := h3.form
  have hps : 2 ≤ ps.length := by omega
  have hps2 : (1 : Int) < (ps.length : Int) := by omega
  have hps3 : 0 < ps.length := by omega
  have hps4 : 1 < ps.length := by omega
  have hps1 : (0 : Int) < (ps.length : Int) := by omega
  obtain ⟨s0, d0, of0, HT0, rfl, hdl0, hdw0, c0_0, c0_1, c0_2⟩ := Slot.at h3 (Below.refl w10.heap.size w10) (by omega) (show 0 < ps.length by omega)
  obtain ⟨s1, d1, of1, HT1, hB1, -, hdw1, c1_0, c1_1, c1_2⟩ := Slot.at h3 (Below.refl w10.heap.size w10) (by omega) (show 1 < ps.length by omega)
  injection hB1 with hB1; injection hB1 with e1 e2; subst e1 e2
  simp only [Nat.zero_mul, Nat.one_mul, Nat.add_zero] at c0_0 c0_1 c0_2 c1_0 c1_1 c1_2
  obtain ⟨q0, q1, q2, q3⟩ := ka.c4
  obtain ⟨p0, p1, p2, p3⟩ := kb.c4
  obtain ⟨e0_0, e0_1, e0_2, e0_3⟩ := kR0.c4
  have f0_0 := kR0.frozen 0
  have f0_1 := kR0.frozen 1
  have f0_2 := kR0.frozen 2
  have f0_3 := kR0.frozen 3
  have n0_0 : w6.heap.size ≠ w.heap.size := by omega
  have m0_0 := n0_0.symm
  have n0_1 : w8.heap.size ≠ w.heap.size := by omega
  have m0_1 := n0_1.symm
  have n0_2 : d0 ≠ w.heap.size := by omega
  have m0_2 := n0_2.symm
  obtain ⟨e1_0, e1_1, e1_2⟩ := kR1.c3
  have f1_0 := kR1.frozen 0
  have f1_1 := kR1.frozen 1
  have f1_2 := kR1.frozen 2
  have n1_0 : w6.heap.size ≠ w.heap.size + 1 := by omega
  have m1_0 := n1_0.symm
  have n1_1 : w8.heap.size ≠ w.heap.size + 1 := by omega
  have m1_1 := n1_1.symm
  have n1_2 : d0 ≠ w.heap.size + 1 := by omega
  have m1_2 := n1_2.symm
  obtain ⟨e2_0, e2_1, e2_2, e2_3⟩ := kR2.c4
  have f2_0 := kR2.frozen 0
  have f2_1 := kR2.frozen 1
  have f2_2 := kR2.frozen 2
  have f2_3 := kR2.frozen 3
  have n2_0 : w6.heap.size ≠ w.heap.size + 2 := by omega
  have m2_0 := n2_0.symm
  have n2_1 : w8.heap.size ≠ w.heap.size + 2 := by omega
  have m2_1 := n2_1.symm
  have n2_2 : d0 ≠ w.heap.size + 2 := by omega
  have m2_2 := n2_2.symm
  obtain ⟨e3_0, e3_1, e3_2⟩ := kR3.c3
  have f3_0 := kR3.frozen 0
  have f3_1 := kR3.frozen 1
  have f3_2 := kR3.frozen 2
  have n3_0 : w6.heap.size ≠ w.heap.size + 3 := by omega
  have m3_0 := n3_0.symm
  have n3_1 : w8.heap.size ≠ w.heap.size + 3 := by omega
  have m3_1 := n3_1.symm
  have n3_2 : d0 ≠ w.heap.size + 3 := by omega
  have m3_2 := n3_2.symm
  go_wp2_with fail
  go_region
  try go_wp2_with fail
  try simp only [Exit.inBlock, Exit.then]
  have dS := (((((((((((((((Chg.refl w.heap.size (w.heap.size + 4) w10).setCell (p := ⟨w.heap.size, 0, none⟩) (by show w.heap.size ≤ w.heap.size; omega) (by show w.heap.size < w.heap.size + 4; omega) (.string a.code)).setCell (p := ⟨w.heap.size, 1, none⟩) (by show w.heap.size ≤ w.heap.size; omega) (by show w.heap.size < w.heap.size + 4; omega) (.int .i64 a.len)).setCell (p := ⟨w.heap.size, 2, none⟩) (by show w.heap.size ≤ w.heap.size; omega) (by show w.heap.size < w.heap.size + 4; omega) (.slice Aa a.people.length Ca)).setCell (p := ⟨w.heap.size, 3, none⟩) (by show w.heap.size ≤ w.heap.size; omega) (by show w.heap.size < w.heap.size + 4; omega) (.int .i64 a.last)).setCell (p := ⟨w.heap.size + 1, 0, none⟩) (by show w.heap.size ≤ w.heap.size + 1; omega) (by show w.heap.size + 1 < w.heap.size + 4; omega) (.int .i64 s0.room)).setCell (p := ⟨w.heap.size + 1, 1, none⟩) (by show w.heap.size ≤ w.heap.size + 1; omega) (by show w.heap.size + 1 < w.heap.size + 4; omega) (.int .i64 s0.day)).setCell (p := ⟨w.heap.size + 1, 2, none⟩) (by show w.heap.size ≤ w.heap.size + 1; omega) (by show w.heap.size + 1 < w.heap.size + 4; omega) (.int .i64 s0.frm)).setCell (p := ⟨w.heap.size + 2, 0, none⟩) (by show w.heap.size ≤ w.heap.size + 2; omega) (by show w.heap.size + 2 < w.heap.size + 4; omega) (.string b.code)).setCell (p := ⟨w.heap.size + 2, 1, none⟩) (by show w.heap.size ≤ w.heap.size + 2; omega) (by show w.heap.size + 2 < w.heap.size + 4; omega) (.int .i64 b.len)).setCell (p := ⟨w.heap.size + 2, 2, none⟩) (by show w.heap.size ≤ w.heap.size + 2; omega) (by show w.heap.size + 2 < w.heap.size + 4; omega) (.slice Ab b.people.length Cb)).setCell (p := ⟨w.heap.size + 2, 3, none⟩) (by show w.heap.size ≤ w.heap.size + 2; omega) (by show w.heap.size + 2 < w.heap.size + 4; omega) (.int .i64 b.last)).setCell (p := ⟨w.heap.size + 3, 0, none⟩) (by show w.heap.size ≤ w.heap.size + 3; omega) (by show w.heap.size + 3 < w.heap.size + 4; omega) (.int .i64 s1.room)).setCell (p := ⟨w.heap.size + 3, 1, none⟩) (by show w.heap.size ≤ w.heap.size + 3; omega) (by show w.heap.size + 3 < w.heap.size + 4; omega) (.int .i64 s1.day)).setCell (p := ⟨w.heap.size + 3, 2, none⟩) (by show w.heap.size ≤ w.heap.size + 3; omega) (by show w.heap.size + 3 < w.heap.size + 4; omega) (.int .i64 s1.frm)).drew
  have zS := dS.size
  refine bodyPost_ret (v := .tuple #[.agg #[.string a.code, .int .i64 a.len, .slice Aa a.people.length Ca, .int .i64 a.last], .agg #[.int .i64 s0.room, .int .i64 s0.day, .int .i64 s0.frm], .agg #[.string b.code, .int .i64 b.len, .slice Ab b.people.length Cb, .int .i64 b.last], .agg #[.int .i64 s1.room, .int .i64 s1.day, .int .i64 s1.frm]]) (by simp [results, Try.results50, go_sem, *]) rfl ?_
  exact ⟨a, b, _, _, s0, s1, rfl, ya, ((fa.rd.chg dS (by omega) (by omega)).wide (by omega) (Nat.le_trans (by omega : _ ≤ w10.heap.size) zS)), yb, ((fb.rd.chg dS (by omega) (by omega)).wide (by omega) (Nat.le_trans (by omega : _ ≤ w10.heap.size) zS)), bb.trans (dS.below (Nat.le_refl _) (by omega))⟩
set_option maxRecDepth 100000 in
set_option maxHeartbeats 4000000 in
theorem drawSharedPeople_any (v : Value) (bs : List Int) (lo hi : Nat) (w : World) (h : RdF encByte 1 w lo hi v bs) (hh : hi ≤ w.heap.size) (hm : bs.length ≤ 4096) (hb : ∀ x ∈ bs, 0 ≤ x ∧ x ≤ 255) :
    Calls Try.prog 52 #[v] w fun e w' => ∃ (a b : Hearing) (pa pb : Value), e = .returned (.tuple #[.agg #[.string a.code, .int .i64 a.len, pa, .int .i64 a.last], .agg #[.string b.code, .int .i64 b.len, pb, .int .i64 b.last]]) ∧ Hearing.by_ 64 a ∧ RdF encStr 1 w' w.heap.size w'.heap.size pa a.people ∧ Hearing.by_ 64 b ∧ RdF encStr 1 w' w.heap.size w'.heap.size pb b.people ∧ Below w.heap.size w w' := by
  have bb : Below w.heap.size w w := Below.refl _ _
  go_enter Try.func52, Try.ntmps52
  go_wp2_with fail
  have b1 : Below w.heap.size w (w.alloc (.cells #[.string ⟨#[]⟩, .int .i64 0, .slice none 0 0, .int .i64 0] 30)) := (Below.refl _ _).alloc (Nat.le_refl _) _
  have zz1 : (w.alloc (.cells #[.string ⟨#[]⟩, .int .i64 0, .slice none 0 0, .int .i64 0] 30)).heap.size = w.heap.size + 1 := by simp
  have kR0 : Blk (w.alloc (.cells #[.string ⟨#[]⟩, .int .i64 0, .slice none 0 0, .int .i64 0] 30)) (w.heap.size) 30 #[.string ⟨#[]⟩, .int .i64 0, .slice none 0 0, .int .i64 0] := Blk.newAt rfl
  have zb1 := b1.size
  replace h := h.below b1 (by omega)
  replace bb := Below.step b1 (by omega) bb
  clear b1
  generalize (w.alloc (.cells #[.string ⟨#[]⟩, .int .i64 0, .slice none 0 0, .int .i64 0] 30)) = w1 at *
  have b2 : Below w1.heap.size w1 (w1.alloc (.cells #[.string ⟨#[]⟩, .int .i64 0, .slice none 0 0, .int .i64 0] 30)) := (Below.refl _ _).alloc (Nat.le_refl _) _
  have zz2 : (w1.alloc (.cells #[.string ⟨#[]⟩, .int .i64 0, .slice none 0 0, .int .i64 0] 30)).heap.size = w1.heap.size + 1 := by simp
  have kR1 : Blk (w1.alloc (.cells #[.string ⟨#[]⟩, .int .i64 0, .slice none 0 0, .int .i64 0] 30)) (w.heap.size + 1) 30 #[.string ⟨#[]⟩, .int .i64 0, .slice none 0 0, .int .i64 0] := Blk.newAt (by omega)
  have zb2 := b2.size
  replace h := h.below b2 (by omega)
  replace bb := Below.step b2 (by omega) bb
  replace kR0 := kR0.below b2 (by omega)
  clear b2
  generalize (w1.alloc (.cells #[.string ⟨#[]⟩, .int .i64 0, .slice none 0 0, .int .i64 0] 30)) = w2 at *
  go_wp2_with fail
  refine (drawDoClash_any _ bs lo hi _ h (by omega) hm hb).mono ?_
  rintro e w3 ⟨a, b, pa, pb, s0, s1, rfl, ya, fa, yb, fb, b3⟩
  have zb3 := b3.size
  replace h := h.below b3 (by omega)
  replace bb := Below.step b3 (by omega) bb
  replace kR0 := kR0.below b3 (by omega)
  replace kR1 := kR1.below b3 (by omega)
  clear b3
  obtain ⟨Aa, Ca, rfl, hca⟩ := fa.form
  obtain ⟨Ab, Cb, rfl, hcb⟩ := fb.form
  clear h
  go_wp2_with fail
  have b4 : Below w3.heap.size w3 (w3.alloc (.cells #[.string a.code, .int .i64 a.len, .slice Aa a.people.length Ca, .int .i64 a.last] 30)) := (Below.refl _ _).alloc (Nat.le_refl _) _
  have zz4 : (w3.alloc (.cells #[.string a.code, .int .i64 a.len, .slice Aa a.people.length Ca, .int .i64 a.last] 30)).heap.size = w3.heap.size + 1 := by simp
  have ka : Blk (w3.alloc (.cells #[.string a.code, .int .i64 a.len, .slice Aa a.people.length Ca, .int .i64 a.last] 30)) (w3.heap.size) 30 #[.string a.code, .int .i64 a.len, .slice Aa a.people.length Ca, .int .i64 a.last] := Blk.newAt rfl
  have zb4 := b4.size
  replace bb := Below.step b4 (by omega) bb
  replace kR0 := kR0.below b4 (by omega)
  replace kR1 := kR1.below b4 (by omega)
  replace fa := fa.below b4 (by omega)
  replace fb := fb.below b4 (by omega)
  clear b4
  generalize (w3.alloc (.cells #[.string a.code, .int .i64 a.len, .slice Aa a.people.length Ca, .int .i64 a.last] 30)) = w4 at *
  have b5 : Below w4.heap.size w4 (w4.alloc (.cells #[.int .i64 s0.room, .int .i64 s0.day, .int .i64 s0.frm] 32)) := (Below.refl _ _).alloc (Nat.le_refl _) _
  have zz5 : (w4.alloc (.cells #[.int .i64 s0.room, .int .i64 s0.day, .int .i64 s0.frm] 32)).heap.size = w4.heap.size + 1 := by simp
  have k0 : Blk (w4.alloc (.cells #[.int .i64 s0.room, .int .i64 s0.day, .int .i64 s0.frm] 32)) (w3.heap.size + 1) 32 #[.int .i64 s0.room, .int .i64 s0.day, .int .i64 s0.frm] := Blk.newAt (by omega)
  have zb5 := b5.size
  replace bb := Below.step b5 (by omega) bb
  replace kR0 := kR0.below b5 (by omega)
  replace kR1 := kR1.below b5 (by omega)
  replace fa := fa.below b5 (by omega)
  replace fb := fb.below b5 (by omega)
  replace ka := ka.below b5 (by omega)
  clear b5
  generalize (w4.alloc (.cells #[.int .i64 s0.room, .int .i64 s0.day, .int .i64 s0.frm] 32)) = w5 at *
  have b6 : Below w5.heap.size w5 (w5.alloc (.cells #[.string b.code, .int .i64 b.len, .slice Ab b.people.length Cb, .int .i64 b.last] 30)) := (Below.refl _ _).alloc (Nat.le_refl _) _
  have zz6 : (w5.alloc (.cells #[.string b.code, .int .i64 b.len, .slice Ab b.people.length Cb, .int .i64 b.last] 30)).heap.size = w5.heap.size + 1 := by simp
  have kb : Blk (w5.alloc (.cells #[.string b.code, .int .i64 b.len, .slice Ab b.people.length Cb, .int .i64 b.last] 30)) (w3.heap.size + 2) 30 #[.string b.code, .int .i64 b.len, .slice Ab b.people.length Cb, .int .i64 b.last] := Blk.newAt (by omega)
  have zb6 := b6.size
  replace bb := Below.step b6 (by omega) bb
  replace kR0 := kR0.below b6 (by omega)
  replace kR1 := kR1.below b6 (by omega)
  replace fa := fa.below b6 (by omega)
  replace fb := fb.below b6 (by omega)
  replace ka := ka.below b6 (by omega)
  replace k0 := k0.below b6 (by omega)
  clear b6
  generalize (w5.alloc (.cells #[.string b.code, .int .i64 b.len, .slice Ab b.people.length Cb, .int .i64 b.last] 30)) = w6 at *
  have b7 : Below w6.heap.size w6 (w6.alloc (.cells #[.int .i64 s1.room, .int .i64 s1.day, .int .i64 s1.frm] 32)) := (Below.refl _ _).alloc (Nat.le_refl _) _
  have zz7 : (w6.alloc (.cells #[.int .i64 s1.room, .int .i64 s1.day, .int .i64 s1.frm] 32)).heap.size = w6.heap.size + 1 := by simp
  have k1 : Blk (w6.alloc (.cells #[.int .i64 s1.room, .int .i64 s1.day, .int .i64 s1.frm] 32)) (w3.heap.size + 3) 32 #[.int .i64 s1.room, .int .i64 s1.day, .int .i64 s1.frm] := Blk.newAt (by omega)
  have zb7 := b7.size
  replace bb := Below.step b7 (by omega) bb
  replace kR0 := kR0.below b7 (by omega)
  replace kR1 := kR1.below b7 (by omega)
  replace fa := fa.below b7 (by omega)
  replace fb := fb.below b7 (by omega)
  replace ka := ka.below b7 (by omega)
  replace k0 := k0.below b7 (by omega)
  replace kb := kb.below b7 (by omega)
  clear b7
  generalize (w6.alloc (.cells #[.int .i64 s1.room, .int .i64 s1.day, .int .i64 s1.frm] 32)) = w7 at *
  clear k0 k1
  obtain ⟨q0, q1, q2, q3⟩ := ka.c4
  obtain ⟨p0, p1, p2, p3⟩ := kb.c4
  obtain ⟨e0_0, e0_1, e0_2, e0_3⟩ := kR0.c4
  have f0_0 := kR0.frozen 0
  have f0_1 := kR0.frozen 1
  have f0_2 := kR0.frozen 2
  have f0_3 := kR0.frozen 3
  have n0_0 : w3.heap.size ≠ w.heap.size := by omega
  have m0_0 := n0_0.symm
  have n0_1 : w3.heap.size + 2 ≠ w.heap.size := by omega
  have m0_1 := n0_1.symm
  obtain ⟨e1_0, e1_1, e1_2, e1_3⟩ := kR1.c4
  have f1_0 := kR1.frozen 0
  have f1_1 := kR1.frozen 1
  have f1_2 := kR1.frozen 2
  have f1_3 := kR1.frozen 3
  have n1_0 : w3.heap.size ≠ w.heap.size + 1 := by omega
  have m1_0 := n1_0.symm
  have n1_1 : w3.heap.size + 2 ≠ w.heap.size + 1 := by omega
  have m1_1 := n1_1.symm
  go_wp2_with fail
  go_region
  try go_wp2_with fail
  try simp only [Exit.inBlock, Exit.then]
  have dS := (((((((((Chg.refl w.heap.size (w.heap.size + 2) w7).setCell (p := ⟨w.heap.size, 0, none⟩) (by show w.heap.size ≤ w.heap.size; omega) (by show w.heap.size < w.heap.size + 2; omega) (.string a.code)).setCell (p := ⟨w.heap.size, 1, none⟩) (by show w.heap.size ≤ w.heap.size; omega) (by show w.heap.size < w.heap.size + 2; omega) (.int .i64 a.len)).setCell (p := ⟨w.heap.size, 2, none⟩) (by show w.heap.size ≤ w.heap.size; omega) (by show w.heap.size < w.heap.size + 2; omega) (.slice Aa a.people.length Ca)).setCell (p := ⟨w.heap.size, 3, none⟩) (by show w.heap.size ≤ w.heap.size; omega) (by show w.heap.size < w.heap.size + 2; omega) (.int .i64 a.last)).setCell (p := ⟨w.heap.size + 1, 0, none⟩) (by show w.heap.size ≤ w.heap.size + 1; omega) (by show w.heap.size + 1 < w.heap.size + 2; omega) (.string b.code)).setCell (p := ⟨w.heap.size + 1, 1, none⟩) (by show w.heap.size ≤ w.heap.size + 1; omega) (by show w.heap.size + 1 < w.heap.size + 2; omega) (.int .i64 b.len)).setCell (p := ⟨w.heap.size + 1, 2, none⟩) (by show w.heap.size ≤ w.heap.size + 1; omega) (by show w.heap.size + 1 < w.heap.size + 2; omega) (.slice Ab b.people.length Cb)).setCell (p := ⟨w.heap.size + 1, 3, none⟩) (by show w.heap.size ≤ w.heap.size + 1; omega) (by show w.heap.size + 1 < w.heap.size + 2; omega) (.int .i64 b.last)).drew
  have zS := dS.size
  refine bodyPost_ret (v := .tuple #[.agg #[.string a.code, .int .i64 a.len, .slice Aa a.people.length Ca, .int .i64 a.last], .agg #[.string b.code, .int .i64 b.len, .slice Ab b.people.length Cb, .int .i64 b.last]]) (by simp [results, Try.results52, go_sem, *]) rfl ?_
  exact ⟨a, b, _, _, rfl, ya, ((fa.chg dS (by omega) (by omega)).wide (by omega) (Nat.le_trans (by omega : _ ≤ w7.heap.size) zS)), yb, ((fb.chg dS (by omega) (by omega)).wide (by omega) (Nat.le_trans (by omega : _ ≤ w7.heap.size) zS)), bb.trans (dS.below (Nat.le_refl _) (by omega))⟩
set_option maxRecDepth 100000 in
set_option maxHeartbeats 4000000 in
theorem drawDoesFit_any (v : Value) (bs : List Int) (lo hi : Nat) (w : World) (h : RdF encByte 1 w lo hi v bs) (hh : hi ≤ w.heap.size) (hm : bs.length ≤ 4096) (hb : ∀ x ∈ bs, 0 ≤ x ∧ x ≤ 255) :
    Calls Try.prog 53 #[v] w fun e w' => ∃ (a : Hearing) (pa : Value) (s : Slot), e = .returned (.tuple #[.agg #[.string a.code, .int .i64 a.len, pa, .int .i64 a.last], .agg #[.int .i64 s.room, .int .i64 s.day, .int .i64 s.frm]]) ∧ Hearing.by_ 64 a ∧ RdF encStr 1 w' w.heap.size w'.heap.size pa a.people ∧ Below w.heap.size w w' := by
  have bb : Below w.heap.size w w := Below.refl _ _
  go_enter Try.func53, Try.ntmps53
  go_wp2_with fail
  have b1 : Below w.heap.size w (w.alloc (.cells #[.string ⟨#[]⟩, .int .i64 0, .slice none 0 0, .int .i64 0] 30)) := (Below.refl _ _).alloc (Nat.le_refl _) _
  have zz1 : (w.alloc (.cells #[.string ⟨#[]⟩, .int .i64 0, .slice none 0 0, .int .i64 0] 30)).heap.size = w.heap.size + 1 := by simp
  have kR0 : Blk (w.alloc (.cells #[.string ⟨#[]⟩, .int .i64 0, .slice none 0 0, .int .i64 0] 30)) (w.heap.size) 30 #[.string ⟨#[]⟩, .int .i64 0, .slice none 0 0, .int .i64 0] := Blk.newAt rfl
  have zb1 := b1.size
  replace h := h.below b1 (by omega)
  replace bb := Below.step b1 (by omega) bb
  clear b1
  generalize (w.alloc (.cells #[.string ⟨#[]⟩, .int .i64 0, .slice none 0 0, .int .i64 0] 30)) = w1 at *
  have b2 : Below w1.heap.size w1 (w1.alloc (.cells #[.int .i64 0, .int .i64 0, .int .i64 0] 32)) := (Below.refl _ _).alloc (Nat.le_refl _) _
  have zz2 : (w1.alloc (.cells #[.int .i64 0, .int .i64 0, .int .i64 0] 32)).heap.size = w1.heap.size + 1 := by simp
  have kR1 : Blk (w1.alloc (.cells #[.int .i64 0, .int .i64 0, .int .i64 0] 32)) (w.heap.size + 1) 32 #[.int .i64 0, .int .i64 0, .int .i64 0] := Blk.newAt (by omega)
  have zb2 := b2.size
  replace h := h.below b2 (by omega)
  replace bb := Below.step b2 (by omega) bb
  replace kR0 := kR0.below b2 (by omega)
  clear b2
  generalize (w1.alloc (.cells #[.int .i64 0, .int .i64 0, .int .i64 0] 32)) = w2 at *
  go_wp2_with fail
  refine (l01From_any _ bs lo hi _ h (by omega) hm hb).mono ?_
  rintro e w3 ⟨q, rfl, hq, s, b3⟩
  have zb3 := b3.size
  replace h := h.below b3 (by omega)
  replace bb := Below.step b3 (by omega) bb
  replace kR0 := kR0.below b3 (by omega)
  replace kR1 := kR1.below b3 (by omega)
  clear b3
  have hql := s.lt
  clear h
  go_wp2_with fail
  refine (l19Hearing_any q ⟨#[97, 114, 115, 111, 110]⟩ _ s (by decide)).mono ?_
  rintro e w4 ⟨a, pa, rfl, ya, fa, s', c4⟩
  clear s
  have s := s'
  clear s'
  have zc4 := c4.size
  replace bb := bb.trans (c4.below (by omega) (by omega))
  replace kR0 := kR0.chg c4 (by omega) (by omega)
  replace kR1 := kR1.chg c4 (by omega) (by omega)
  clear c4
  obtain ⟨Aa, Ca, rfl, hca⟩ := fa.rd.form
  go_wp2_with fail
  have b5 : Below w4.heap.size w4 (w4.alloc (.cells #[.string a.code, .int .i64 a.len, .slice Aa a.people.length Ca, .int .i64 a.last] 30)) := (Below.refl _ _).alloc (Nat.le_refl _) _
  have zz5 : (w4.alloc (.cells #[.string a.code, .int .i64 a.len, .slice Aa a.people.length Ca, .int .i64 a.last] 30)).heap.size = w4.heap.size + 1 := by simp
  have ka : Blk (w4.alloc (.cells #[.string a.code, .int .i64 a.len, .slice Aa a.people.length Ca, .int .i64 a.last] 30)) (w4.heap.size) 30 #[.string a.code, .int .i64 a.len, .slice Aa a.people.length Ca, .int .i64 a.last] := Blk.newAt rfl
  have zb5 := b5.size
  replace bb := Below.step b5 (by omega) bb
  replace kR0 := kR0.below b5 (by omega)
  replace kR1 := kR1.below b5 (by omega)
  replace s := s.below b5 (by omega)
  replace fa := fa.below b5 (by omega)
  clear b5
  generalize (w4.alloc (.cells #[.string a.code, .int .i64 a.len, .slice Aa a.people.length Ca, .int .i64 a.last] 30)) = w5 at *
  go_wp2_with fail
  refine (l19SlotsN_any q 1 _ s (by omega) (by omega)).mono ?_
  rintro e w6 ⟨vs, ps, rfl, hp1, hp2, h3, s', c6⟩
  clear s
  have s := s'
  clear s'
  have zc6 := c6.size
  replace bb := bb.trans (c6.below (by omega) (by omega))
  replace kR0 := kR0.chg c6 (by omega) (by omega)
  replace kR1 := kR1.chg c6 (by omega) (by omega)
  replace fa := fa.chg c6 (by omega) (by omega)
  replace ka := ka.chg c6 (by omega) (by omega)
  clear c6
  obtain ⟨A3, C3, rfl, hc3⟩ := h3.form
  have hps : 1 ≤ ps.length := by omega
  have hps3 : 0 < ps.length := by omega
  have hps1 : (0 : Int) < (ps.length : Int) := by omega
  obtain ⟨s0, d0, of0, HT0, rfl, hdl0, hdw0, c0_0, c0_1, c0_2⟩ := Slot.at h3 (Below.refl w6.heap.size w6) (by omega) (show 0 < ps.length by omega)
  simp only [Nat.zero_mul, Nat.add_zero] at c0_0 c0_1 c0_2
  obtain ⟨q0, q1, q2, q3⟩ := ka.c4
  obtain ⟨e0_0, e0_1, e0_2, e0_3⟩ := kR0.c4
  have f0_0 := kR0.frozen 0
  have f0_1 := kR0.frozen 1
  have f0_2 := kR0.frozen 2
  have f0_3 := kR0.frozen 3
  have n0_0 : w4.heap.size ≠ w.heap.size := by omega
  have m0_0 := n0_0.symm
  have n0_1 : d0 ≠ w.heap.size := by omega
  have m0_1 := n0_1.symm
  obtain ⟨e1_0, e1_1, e1_2⟩ := kR1.c3
  have f1_0 := kR1.frozen 0
  have f1_1 := kR1.frozen 1
  have f1_2 := kR1.frozen 2
  have n1_0 : w4.heap.size ≠ w.heap.size + 1 := by omega
  have m1_0 := n1_0.symm
  have n1_1 : d0 ≠ w.heap.size + 1 := by omega
  have m1_1 := n1_1.symm
  go_wp2_with fail
  go_region
  try go_wp2_with fail
  try simp only [Exit.inBlock, Exit.then]
  have dS := ((((((((Chg.refl w.heap.size (w.heap.size + 2) w6).setCell (p := ⟨w.heap.size, 0, none⟩) (by show w.heap.size ≤ w.heap.size; omega) (by show w.heap.size < w.heap.size + 2; omega) (.string a.code)).setCell (p := ⟨w.heap.size, 1, none⟩) (by show w.heap.size ≤ w.heap.size; omega) (by show w.heap.size < w.heap.size + 2; omega) (.int .i64 a.len)).setCell (p := ⟨w.heap.size, 2, none⟩) (by show w.heap.size ≤ w.heap.size; omega) (by show w.heap.size < w.heap.size + 2; omega) (.slice Aa a.people.length Ca)).setCell (p := ⟨w.heap.size, 3, none⟩) (by show w.heap.size ≤ w.heap.size; omega) (by show w.heap.size < w.heap.size + 2; omega) (.int .i64 a.last)).setCell (p := ⟨w.heap.size + 1, 0, none⟩) (by show w.heap.size ≤ w.heap.size + 1; omega) (by show w.heap.size + 1 < w.heap.size + 2; omega) (.int .i64 s0.room)).setCell (p := ⟨w.heap.size + 1, 1, none⟩) (by show w.heap.size ≤ w.heap.size + 1; omega) (by show w.heap.size + 1 < w.heap.size + 2; omega) (.int .i64 s0.day)).setCell (p := ⟨w.heap.size + 1, 2, none⟩) (by show w.heap.size ≤ w.heap.size + 1; omega) (by show w.heap.size + 1 < w.heap.size + 2; omega) (.int .i64 s0.frm)).drew
  have zS := dS.size
  refine bodyPost_ret (v := .tuple #[.agg #[.string a.code, .int .i64 a.len, .slice Aa a.people.length Ca, .int .i64 a.last], .agg #[.int .i64 s0.room, .int .i64 s0.day, .int .i64 s0.frm]]) (by simp [results, Try.results53, go_sem, *]) rfl ?_
  exact ⟨a, _, s0, rfl, ya, ((fa.rd.chg dS (by omega) (by omega)).wide (by omega) (Nat.le_trans (by omega : _ ≤ w6.heap.size) zS)), bb.trans (dS.below (Nat.le_refl _) (by omega))⟩
set_option maxRecDepth 100000 in
set_option maxHeartbeats 4000000 in
theorem drawIsPlan_any (v : Value) (bs : List Int) (lo hi : Nat) (w : World) (h : RdF encByte 1 w lo hi v bs) (hh : hi ≤ w.heap.size) (hm : bs.length ≤ 4096) (hb : ∀ x ∈ bs, 0 ≤ x ∧ x ≤ 255) :
    Calls Try.prog 94 #[v] w fun e w' => ∃ (v1 : Value) (xs : List Hearing) (v2 : Value) (ps : List Slot), e = .returned (.tuple #[v1, v2]) ∧ xs.length ≤ 6 ∧ (∀ x ∈ xs, Hearing.by_ 64 x) ∧ ps.length ≤ 120 ∧ RdHearing w' w.heap.size w'.heap.size v1 xs ∧ RdF Slot.enc 3 w' w.heap.size w'.heap.size v2 ps ∧ Below w.heap.size w w' := by
  have bb : Below w.heap.size w w := Below.refl _ _
  go_enter Try.func94, Try.ntmps94
  go_wp2_with fail
  refine (l01From_any _ bs lo hi _ h (by omega) hm hb).mono ?_
  rintro e w1 ⟨q, rfl, hq, s, b1⟩
  have zb1 := b1.size
  replace h := h.below b1 (by omega)
  replace bb := Below.step b1 (by omega) bb
  clear b1
  have hql := s.lt
  clear h
  go_wp2_with fail
  refine (l19List_any q _ s).mono ?_
  rintro e w2 ⟨v1, xs, rfl, hx6, hxb, h1, s', c2⟩
  clear s
  have s := s'
  clear s'
  have zc2 := c2.size
  replace bb := bb.trans (c2.below (by omega) (by omega))
  clear c2
  have HX := Lib.hid hxb
  clear hxb
  obtain ⟨A1, c1, rfl, hcap1⟩ : ∃ A c, v1 = .slice A xs.length c ∧ xs.length ≤ c := by
    obtain ⟨rs, rfl, hR, -⟩ := h1
    obtain ⟨A, c, hv, hc⟩ := hR.form
    exact ⟨A, c, by rw [hv, List.length_map], by rw [List.length_map]; exact hc⟩
  go_wp2_with fail
  refine (l19Slots_any q _ _ s (by omega) (by omega)).mono ?_
  rintro e w3 ⟨v2, ps, rfl, hp1, h3, s', c3⟩
  clear s
  have s := s'
  clear s'
  have zc3 := c3.size
  replace bb := bb.trans (c3.below (by omega) (by omega))
  replace h1 := h1.chg c3 (by omega) (by omega)
  clear c3
  go_wp2_with fail
  go_ret2
  exact ⟨_, xs, v2, ps, rfl, hx6, HX.out, hp1, h1.wide (by omega) (by omega), h3.wide (by omega) (by omega), bb⟩
set_option maxRecDepth 100000 in
set_option maxHeartbeats 4000000 in
theorem drawBookPlan_any (v : Value) (bs : List Int) (lo hi : Nat) (w : World) (h : RdF encByte 1 w lo hi v bs) (hh : hi ≤ w.heap.size) (hm : bs.length ≤ 4096) (hb : ∀ x ∈ bs, 0 ≤ x ∧ x ≤ 255) :
    Calls Try.prog 51 #[v] w fun e w' => ∃ (v1 : Value) (xs : List Hearing) (v2 : Value) (ps : List Slot), e = .returned (.tuple #[v1, v2]) ∧ xs.length ≤ 6 ∧ (∀ x ∈ xs, Hearing.by_ 64 x) ∧ ps.length ≤ 120 ∧ RdHearing w' w.heap.size w'.heap.size v1 xs ∧ RdF Slot.enc 3 w' w.heap.size w'.heap.size v2 ps ∧ Below w.heap.size w w' := by
  go_enter Try.func51, Try.ntmps51
  go_wp2_with fail
  refine (drawIsPlan_any _ bs lo hi _ h hh hm hb).mono ?_
  rintro e w1 ⟨v1, xs, v2, ps, rfl, h1, h2, h3, h4, h5, b1⟩
  go_wp2_with fail
  go_ret2
  exact ⟨v1, xs, v2, ps, rfl, h1, h2, h3, h4, h5, b1⟩
end Go.Proofs.Ytdcfenkkgnnbbaa
