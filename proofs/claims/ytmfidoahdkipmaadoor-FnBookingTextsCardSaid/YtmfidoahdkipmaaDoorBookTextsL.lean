/- A booking is recovered from its text: returns true for all arguments; the variables of the library as their text lays them. -/
import Derived.Test.YtmfidoahdkipmaaDoorTextL
import Derived.Test.YtmfidoahdkipmaaDoorDrawBt
import Derived.Test.YtmfidoahdkipmaaDoorLike
import Derived.Test.YtmfidoahdkipmaaDoorOpenB
namespace Go.Proofs.YtmfidoahdkipmaaDoor.bookTextsL
open Go.ChangeShapes Go.WideShapes Go.ChangeAt Go.RowKit
open Go.ChangeMaps (open_string shut_string)
set_option linter.unusedVariables false

theorem own : ownKnob Tryd.prog.godebug = none := by kernel_rfl
theorem laidOut : laidOutB Tryd.prog = true := by kernel_rfl

theorem bookText_ok {b : Booking} (h : (bookText b).2 = 0) : b.ok = true ∧ bookText b = (bookStr b, 0) := by
  unfold bookText at h ⊢
  split at h
  · next hk => exact ⟨hk, by rw [if_pos hk]⟩
  · simp at h

set_option maxRecDepth 100000 in
set_option maxHeartbeats 40000000 in
theorem walk (v0 : Value) (code : List Int) (w : World) (hT : Tabs w) (hx0 : RdF encByte 1 w 0 w.heap.size v0 code) (hl0 : code.length ≤ maxLen) (hq0 : ∀ x ∈ code, 0 ≤ x ∧ x ≤ 255) :
    Calls Tryd.prog 5 #[v0] w fun e w' => e = .returned (.bool true) ∧ Below w.heap.size w w' := by
  try unfold maxLen at *
  obtain ⟨A0, C0, rfl, hc0⟩ := hx0.form
  by_cases hbig : (4096 : Int) < (code.length : Int)
  · go_enter Tryd.func5, Tryd.ntmps5
    go_wp2_with fail
    refine (big_any A0 C0 code.length _).mono ?_
    rintro e w1 ⟨rfl, b1⟩
    rw [decide_eq_true hbig]
    go_wp2_with fail
    go_ret
    exact ⟨rfl, b1⟩
  go_enter Tryd.func5, Tryd.ntmps5
  have BB : Below w.heap.size w w := Below.refl _ _
  go_wp2_with fail
  refine (big_any A0 C0 code.length _).mono ?_
  rintro e w1 ⟨rfl, b1⟩
  have zb1 := b1.size
  replace hx0 := hx0.below b1 (by omega)
  replace BB := Below.step b1 (by omega) BB
  clear b1
  rw [decide_eq_false (show ¬ (4096 : Int) < (code.length : Int) by omega)]
  go_wp2_with fail
  refine (drawBookingText_any _ code _ _ _ hx0 (by omega) (by omega) hq0).mono ?_
  rintro e w2 ⟨x, rfl, hu, b2⟩
  have zb2 := b2.size
  replace hx0 := hx0.below b2 (by omega)
  replace BB := Below.step b2 (by omega) BB
  clear b2
  go_wp2_with fail
  have bA : Below w2.heap.size w2 (w2.alloc (.cells #[.int .i64 x.room, .int .i64 x.day, .int .i64 x.frm, .int .i64 x.to_, .string x.use] 27)) := (Below.refl _ _).alloc (Nat.le_refl _) _
  have zzA : (w2.alloc (.cells #[.int .i64 x.room, .int .i64 x.day, .int .i64 x.frm, .int .i64 x.to_, .string x.use] 27)).heap.size = w2.heap.size + 1 := by simp
  have kx : Blk (w2.alloc (.cells #[.int .i64 x.room, .int .i64 x.day, .int .i64 x.frm, .int .i64 x.to_, .string x.use] 27)) (w2.heap.size) 27 #[.int .i64 x.room, .int .i64 x.day, .int .i64 x.frm, .int .i64 x.to_, .string x.use] := Blk.newAt rfl
  have zbA := bA.size
  replace hx0 := hx0.below bA (by omega)
  replace BB := Below.step bA (by omega) BB
  clear bA
  have kzA := zzA
  replace zzA : w2.heap.size < (w2.alloc (.cells #[.int .i64 x.room, .int .i64 x.day, .int .i64 x.frm, .int .i64 x.to_, .string x.use] 27)).heap.size := by omega
  clear kzA
  generalize (w2.alloc (.cells #[.int .i64 x.room, .int .i64 x.day, .int .i64 x.frm, .int .i64 x.to_, .string x.use] 27)) = wA at *
  refine (bookingText_any x _ (hT.below BB).1 (by omega)).mono ?_
  rintro e w3 ⟨rfl, b3⟩
  have zb3 := b3.size
  replace hx0 := hx0.below b3 (by omega)
  replace kx := kx.below b3 (by omega)
  replace BB := Below.step b3 (by omega) BB
  clear b3
  obtain ⟨q0, q1, q2, q3, q4⟩ := kx.c5
  go_wp2_with fail
  refine (sBookingText_any x _ (by omega)).mono ?_
  rintro e w4 ⟨rfl, b4⟩
  have zb4 := b4.size
  replace hx0 := hx0.below b4 (by omega)
  replace kx := kx.below b4 (by omega)
  replace BB := Below.step b4 (by omega) BB
  clear b4
  clear q0 q1 q2 q3 q4
  go_wp2_with fail
  refine (drawReadBooking_any _ code _ _ _ hx0 (by omega) (by omega) hq0).mono ?_
  rintro e w5 ⟨t, rfl, ht, b5⟩
  have zb5 := b5.size
  replace hx0 := hx0.below b5 (by omega)
  replace kx := kx.below b5 (by omega)
  replace BB := Below.step b5 (by omega) BB
  clear b5
  clear hx0
  go_wp2_with fail
  refine (readBooking_any t _ (hT.below BB) (by omega)).mono ?_
  rintro e w6 ⟨rfl, b6⟩
  have zb6 := b6.size
  replace kx := kx.below b6 (by omega)
  replace BB := Below.step b6 (by omega) BB
  clear b6
  go_wp2_with fail
  have bB : Below w6.heap.size w6 (w6.alloc (.cells #[.int .i64 (readBook t).1.room, .int .i64 (readBook t).1.day, .int .i64 (readBook t).1.frm, .int .i64 (readBook t).1.to_, .string (readBook t).1.use] 27)) := (Below.refl _ _).alloc (Nat.le_refl _) _
  have zzB : (w6.alloc (.cells #[.int .i64 (readBook t).1.room, .int .i64 (readBook t).1.day, .int .i64 (readBook t).1.frm, .int .i64 (readBook t).1.to_, .string (readBook t).1.use] 27)).heap.size = w6.heap.size + 1 := by simp
  have ky : Blk (w6.alloc (.cells #[.int .i64 (readBook t).1.room, .int .i64 (readBook t).1.day, .int .i64 (readBook t).1.frm, .int .i64 (readBook t).1.to_, .string (readBook t).1.use] 27)) (w6.heap.size) 27 #[.int .i64 (readBook t).1.room, .int .i64 (readBook t).1.day, .int .i64 (readBook t).1.frm, .int .i64 (readBook t).1.to_, .string (readBook t).1.use] := Blk.newAt rfl
  have zbB := bB.size
  replace kx := kx.below bB (by omega)
  replace BB := Below.step bB (by omega) BB
  clear bB
  have kzB := zzB
  replace zzB : w6.heap.size < (w6.alloc (.cells #[.int .i64 (readBook t).1.room, .int .i64 (readBook t).1.day, .int .i64 (readBook t).1.frm, .int .i64 (readBook t).1.to_, .string (readBook t).1.use] 27)).heap.size := by omega
  clear kzB
  generalize (w6.alloc (.cells #[.int .i64 (readBook t).1.room, .int .i64 (readBook t).1.day, .int .i64 (readBook t).1.frm, .int .i64 (readBook t).1.to_, .string (readBook t).1.use] 27)) = wB at *
  refine (sReadBooking_any t _ (by omega)).mono ?_
  rintro e w7 ⟨rfl, b7⟩
  have zb7 := b7.size
  replace kx := kx.below b7 (by omega)
  replace ky := ky.below b7 (by omega)
  replace BB := Below.step b7 (by omega) BB
  clear b7
  have HRT := Lib.hid (@read_text t)
  have HTR := Lib.hid (@bookText_ok x)
  have zy := ky.lt
  obtain ⟨p0, p1, p2, p3, p4⟩ := ky.c5
  by_cases h1z : (readBook t).2 = 0
  · obtain ⟨hyk, hyt⟩ := HRT.out h1z
    have hyu := (wordOk_size (ok_use hyk)).2
    have HYT := Lib.hid hyt
    rw [h1z]
    clear HRT hyt
    go_wp2_with fail
    have bC : Below w7.heap.size w7 (w7.alloc (.cells #[.int .i64 (readBook t).1.room, .int .i64 (readBook t).1.day, .int .i64 (readBook t).1.frm, .int .i64 (readBook t).1.to_, .string (readBook t).1.use] 27)) := (Below.refl _ _).alloc (Nat.le_refl _) _
    have zzC : (w7.alloc (.cells #[.int .i64 (readBook t).1.room, .int .i64 (readBook t).1.day, .int .i64 (readBook t).1.frm, .int .i64 (readBook t).1.to_, .string (readBook t).1.use] 27)).heap.size = w7.heap.size + 1 := by simp
    have kz : Blk (w7.alloc (.cells #[.int .i64 (readBook t).1.room, .int .i64 (readBook t).1.day, .int .i64 (readBook t).1.frm, .int .i64 (readBook t).1.to_, .string (readBook t).1.use] 27)) (w7.heap.size) 27 #[.int .i64 (readBook t).1.room, .int .i64 (readBook t).1.day, .int .i64 (readBook t).1.frm, .int .i64 (readBook t).1.to_, .string (readBook t).1.use] := Blk.newAt rfl
    have zbC := bC.size
    replace kx := kx.below bC (by omega)
    replace ky := ky.below bC (by omega)
    replace BB := Below.step bC (by omega) BB
    clear bC
    have kzC := zzC
    replace zzC : w7.heap.size < (w7.alloc (.cells #[.int .i64 (readBook t).1.room, .int .i64 (readBook t).1.day, .int .i64 (readBook t).1.frm, .int .i64 (readBook t).1.to_, .string (readBook t).1.use] 27)).heap.size := by omega
    clear kzC
    generalize (w7.alloc (.cells #[.int .i64 (readBook t).1.room, .int .i64 (readBook t).1.day, .int .i64 (readBook t).1.frm, .int .i64 (readBook t).1.to_, .string (readBook t).1.use] 27)) = wC at *
    clear p0 p1 p2 p3 p4
    clear kz ky
    refine (bookingText_any (readBook t).1 _ (hT.below BB).1 (by omega)).mono ?_
    rintro e w8 ⟨rfl, b8⟩
    have zb8 := b8.size
    replace kx := kx.below b8 (by omega)
    replace BB := Below.step b8 (by omega) BB
    clear b8
    rw [HYT.out]
    generalize (readBook t).1 = y at *
    by_cases hz : ¬ (bookText x).2 = 0
    · have hz' : ((bookText x).2 != 0) = true := by simpa using hz
      generalize (bookText x).2 = bad at *
      go_wp2_with fail
      go_ret
      exact ⟨rfl, by (repeat (first | with_reducible assumption | with_reducible exact Below.refl _ _ | with_reducible refine Below.setCell ?_ ?_ _ | with_reducible refine Below.alloc ?_ ?_ _ | with_reducible refine Below.drew ?_ | with_reducible refine below_drewN ?_ _ | with_reducible refine Below.step (by with_reducible assumption) ?_ ?_ | omega | (simp <;> omega) | (simp; done)))⟩
    · have hz1 : (bookText x).2 = 0 := by simpa using hz
      obtain ⟨hok, hbx⟩ := HTR.out hz1
      have hl2 := bookStr_len hok
      have HX := Lib.hid (text_read hok)
      rw [hbx]
      clear hz hz1 hbx HTR
      go_wp2_with fail
      refine (readBooking_any (bookStr x) _ (hT.below BB) (by omega)).mono ?_
      rintro e w9 ⟨rfl, b9⟩
      have zb9 := b9.size
      replace kx := kx.below b9 (by omega)
      replace BB := Below.step b9 (by omega) BB
      clear b9
      rw [HX.out]
      have zx := kx.lt
      obtain ⟨r0, r1, r2, r3, r4⟩ := kx.c5
      go_wp2_with fail
      go_ret
      exact ⟨rfl, by (repeat (first | with_reducible assumption | with_reducible exact Below.refl _ _ | with_reducible refine Below.setCell ?_ ?_ _ | with_reducible refine Below.alloc ?_ ?_ _ | with_reducible refine Below.drew ?_ | with_reducible refine below_drewN ?_ _ | with_reducible refine Below.step (by with_reducible assumption) ?_ ?_ | omega | (simp <;> omega) | (simp; done)))⟩
  · have h10 : ((readBook t).2 == 0) = false := by simpa using h1z
    generalize (readBook t).2 = one at *
    generalize (readBook t).1 = y at *
    clear HRT
    by_cases hz : ¬ (bookText x).2 = 0
    · have hz' : ((bookText x).2 != 0) = true := by simpa using hz
      generalize (bookText x).2 = bad at *
      go_wp2_with fail
      go_ret
      exact ⟨rfl, by (repeat (first | with_reducible assumption | with_reducible exact Below.refl _ _ | with_reducible refine Below.setCell ?_ ?_ _ | with_reducible refine Below.alloc ?_ ?_ _ | with_reducible refine Below.drew ?_ | with_reducible refine below_drewN ?_ _ | with_reducible refine Below.step (by with_reducible assumption) ?_ ?_ | omega | (simp <;> omega) | (simp; done)))⟩
    · have hz1 : (bookText x).2 = 0 := by simpa using hz
      obtain ⟨hok, hbx⟩ := HTR.out hz1
      have hl2 := bookStr_len hok
      have HX := Lib.hid (text_read hok)
      rw [hbx]
      clear hz hz1 hbx HTR
      go_wp2_with fail
      have bC : Below w7.heap.size w7 (w7.alloc (.cells #[.int .i64 y.room, .int .i64 y.day, .int .i64 y.frm, .int .i64 y.to_, .string y.use] 27)) := (Below.refl _ _).alloc (Nat.le_refl _) _
      have zzC : (w7.alloc (.cells #[.int .i64 y.room, .int .i64 y.day, .int .i64 y.frm, .int .i64 y.to_, .string y.use] 27)).heap.size = w7.heap.size + 1 := by simp
      have kz : Blk (w7.alloc (.cells #[.int .i64 y.room, .int .i64 y.day, .int .i64 y.frm, .int .i64 y.to_, .string y.use] 27)) (w7.heap.size) 27 #[.int .i64 y.room, .int .i64 y.day, .int .i64 y.frm, .int .i64 y.to_, .string y.use] := Blk.newAt rfl
      have zbC := bC.size
      replace kx := kx.below bC (by omega)
      replace ky := ky.below bC (by omega)
      replace BB := Below.step bC (by omega) BB
      clear bC
      have kzC := zzC
      replace zzC : w7.heap.size < (w7.alloc (.cells #[.int .i64 y.room, .int .i64 y.day, .int .i64 y.frm, .int .i64 y.to_, .string y.use] 27)).heap.size := by omega
      clear kzC
      generalize (w7.alloc (.cells #[.int .i64 y.room, .int .i64 y.day, .int .i64 y.frm, .int .i64 y.to_, .string y.use] 27)) = wC at *
      clear p0 p1 p2 p3 p4
      clear kz ky
      refine (readBooking_any (bookStr x) _ (hT.below BB) (by omega)).mono ?_
      rintro e w8 ⟨rfl, b8⟩
      have zb8 := b8.size
      replace kx := kx.below b8 (by omega)
      replace BB := Below.step b8 (by omega) BB
      clear b8
      rw [HX.out]
      have zx := kx.lt
      obtain ⟨r0, r1, r2, r3, r4⟩ := kx.c5
      go_wp2_with fail
      go_ret
      exact ⟨rfl, by (repeat (first | with_reducible assumption | with_reducible exact Below.refl _ _ | with_reducible refine Below.setCell ?_ ?_ _ | with_reducible refine Below.alloc ?_ ?_ _ | with_reducible refine Below.drew ?_ | with_reducible refine below_drewN ?_ _ | with_reducible refine Below.step (by with_reducible assumption) ?_ ?_ | omega | (simp <;> omega) | (simp; done)))⟩

set_option maxRecDepth 100000 in
theorem lifted (os : Os) (started : os.Started) (H : Type) (enc : TypeId × Value → H) :
    ReturnsInHanded {} Tryd.checked os 5 .any (fun w args => (Rows.fnBookingTextsSpec.pre enc Tryd.prog Tryd.f5 Rows.fnBookingTextsRow.domain false w args ∧ laidMetH Tryd.prog Rows.fnBookingTextsRow.laid w) ∧ sizedMet enc Tryd.prog Tryd.f5 (OpenSpec.ofChange Rows.fnBookingTextsSpec) false w args) (Rows.fnBookingTextsSpec.post enc Tryd.prog Tryd.f5 false true false false) := by
  refine handed_both (C := Tryd.checked) (X := fun w _ => laidMetH Tryd.prog Rows.fnBookingTextsRow.laid w) (fun _ _ _ hh h => h.of_heap hh) own started (by kernel_rfl) Tryd.func5
    (ChangeSpec.witness_shaped (enc := enc) (C := Tryd.checked) (os := os) (X := fun w _ => laidMetH Tryd.prog Rows.fnBookingTextsRow.laid w) false (World.laidAll Tryd.prog os Rows.fnBookingTextsRow.laid) #[.slice none 0 0] 8 (World.laidAll_os _ _ _)
      (World.shaped_of_ZipB (by kernel_rfl) (by kernel_rfl)) (by kernel_rfl) (by kernel_rfl) (by kernel_rfl)
      (by rw [MakeChecks.laidMetH_plain _ _ _ (by kernel_rfl)]; exact laidMet_laidAll _ (by kernel_rfl) (by kernel_rfl))) ?_
  intro W base args ds gs before hval0 hW hL hsh
  have hval : ∀ (j : Nat) t v, Tryd.f5.params[j]? = some t → args[j]? = some v → Value.okWide Tryd.prog W .any base t v := hval0
  have hW' := hW
  obtain ⟨p, q, hA0, hV, rfl, hfz, hnd⟩ := hW
  have hA : DataW.TrodAll enc Tryd.prog W 0 (fun _ => true) true Tryd.f5.params.toList args.toList ds p := hA0
  rw [Tryd.params5] at hA hval
  obtain ⟨v0, vs0, d0, ds0, p0, q0, hargs, rfl, rfl, h0, r0⟩ := trodAll_cons hA
  obtain ⟨rfl, rfl, rfl⟩ := trodAll_nil r0
  obtain rfl : args = #[v0] := by cases args; simp_all
  obtain ⟨rfl, rfl⟩ := trodVars_none hV
  have k0 := h0
  have lt0 : ∀ x ∈ p0, x.block < W.heap.size := by obtain ⟨m, hm⟩ := k0; exact DataW.trod_lt m _ _ _ hm
  obtain ⟨code, hx0, hl0, hq0⟩ := open_bytes Tryd.underlying34 Tryd.underlying5 (by kernel_rfl) (hval 0 34 v0 rfl rfl) h0
  clear hA0 hval0
  refine (walk v0 code W (tabs_row hL hsh) hx0 hl0 hq0).mono fun e W' ⟨he, bel⟩ => ?_
  subst he
  exact ⟨_, rfl, _, _, _, [], _, [], hW', trodAll_mk1 (shut_bool Tryd.underlying4 _), (trodAll_cons_mk (Below.trod laidOut (by kernel_rfl) (of_decide_eq_true (by kernel_rfl)) k0 bel lt0) trodAll_mk0), rfl, bel.frame _, fun h => by cases h⟩

theorem over : Rows.FnBookingTextsSaid :=
  OpenClaim.holds_of_wide 5 Tryd.f5 rfl rfl rfl rfl rfl rfl rfl ⟨rfl, rfl, rfl, rfl, rfl⟩ rfl rfl rfl rfl rfl (by kernel_rfl) Tryd.func5 (by kernel_rfl)
    (of_decide_eq_true (by kernel_rfl)) (by unfold Func.isWrapper; first | (rw [if_pos (by decide +kernel)]; kernel_rfl) | (rw [if_neg (by decide +kernel)]; exact ⟨rfl, rfl⟩))
    (fun os started H enc _ => lifted os started H enc)

theorem proved : Rows.FnBookingTextsCardSaid :=
  Claim7.holds_tied_plain_at .later [] [.data, .data, .data, .data, .sentinel, .sentinel, .pinned] true (true, "02a43458191d755385095ed6c1e0580d2b5a68af1567321df85616689516f830") true over (fun _ h => by cases h) (by kernel_rfl) (fun _ h => by cases h) fnBookingTexts_row_tie rfl ⟨rfl, rfl⟩ (by kernel_rfl) rfl
    (fun f fn hf hfn => by
      obtain rfl : f = 5 := Option.some.inj ((show Tryd.prog.funcNamed "loop.example/g01027/laws.FnBookingTexts" = some 5 by kernel_rfl).symm.trans hf) |>.symm
      obtain rfl : fn = Tryd.f5 := (Option.some.inj (Tryd.func5.symm.trans hfn)).symm
      exact ⟨by kernel_rfl, fun j t ht => by
        rw [Tryd.params5] at ht
        have hm : t ∈ [34] := by simpa using Array.mem_of_getElem? ht
        have hall : ([34].all fun u => !Tryd.prog.wantsStandIn u) = true := by kernel_rfl
        exact (show Tryd.prog.wantsStandIn t = false by simpa using List.all_eq_true.1 hall t hm)⟩)
    (by kernel_rfl)
#print axioms proved
end Go.Proofs.YtmfidoahdkipmaaDoor.bookTextsL
