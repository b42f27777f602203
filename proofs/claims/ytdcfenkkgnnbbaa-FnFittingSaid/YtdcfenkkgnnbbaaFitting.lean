/- A hearing fits into each choice that is told: returns true for all arguments. No conditions. -/
import Derived.Test.YtdcfenkkgnnbbaaFitC
import Derived.Test.YtdcfenkkgnnbbaaDrawFit
import Derived.Test.YtdcfenkkgnnbbaaLike
import Derived.Test.YtdcfenkkgnnbbaaOpenB
import Derived.Test.YtdcfenkkgnnbbaaHearingO
namespace Go.Proofs.Ytdcfenkkgnnbbaa.fitting
open Go.ChangeShapes Go.WideShapes Go.ChangeAt Go.RowKit
open Go.ChangeMaps (open_string shut_string)
set_option linter.unusedVariables false

theorem own : ownKnob Try.prog.godebug = none := by kernel_rfl
theorem laidOut : laidOutB Try.prog = true := by kernel_rfl

theorem fitting_zero {xs : List Hearing} {ps : List Slot} {index : Int} (h : (fittingChoices xs ps index).2 = 0) : ∃ (i : Nat) (a : Hearing), index = (i : Int) ∧ xs[i]? = some a ∧ bothOk xs ps = true ∧ fittingChoices xs ps index = (fitIdx a ps ps.length, 0) := by
  unfold fittingChoices at h
  split at h
  · rename_i h1
    split at h
    · rename_i h2
      obtain ⟨i, rfl⟩ := Int.eq_ofNat_of_zero_le h2
      unfold fittingAt at h
      rw [Int.toNat_natCast] at h
      cases hx : xs[i]? with
      | none => rw [hx] at h; simp at h
      | some a => exact ⟨i, a, rfl, hx, h1, fitting_at h1 hx⟩
    · simp at h
  · simp at h
theorem mem_fitIdx {h : Hearing} {ps : List Slot} {k : Nat} (hk : k < ps.length) : decide ((k : Int) ∈ fitIdx h ps ps.length) = fitI h ps k := by
  rw [Bool.eq_iff_iff, decide_eq_true_iff]
  simp only [fitIdx, List.mem_map, List.mem_filter, List.mem_range]
  constructor
  · rintro ⟨a, ⟨_, h2⟩, h3⟩
    obtain rfl : a = k := by omega
    exact h2
  · exact fun h => ⟨k, ⟨hk, h⟩, rfl⟩

set_option maxRecDepth 100000 in
set_option maxHeartbeats 4000000 in
theorem walk (v0 : Value) (code : List Int) (w : World) (hx0 : RdF encByte 1 w 0 w.heap.size v0 code) (hl0 : code.length ≤ maxLen) (hq0 : ∀ x ∈ code, 0 ≤ x ∧ x ≤ 255) :
    Calls Try.prog 12 #[v0] w fun e w' => e = .returned (.bool true) ∧ Below w.heap.size w w' := by
  try unfold maxLen at *
  obtain ⟨A0, C0, rfl, hc0⟩ := hx0.form
  by_cases hbig : (4096 : Int) < (code.length : Int)
  · go_enter Try.func12, Try.ntmps12
    go_wp2_with fail
    refine (big_any A0 C0 code.length _).mono ?_
    rintro e w1 ⟨rfl, b1⟩
    rw [decide_eq_true hbig]
    go_wp2_with fail
    go_ret
    exact ⟨rfl, b1⟩
  go_enter Try.func12, Try.ntmps12
  have BB : Below w.heap.size w w := Below.refl _ _
  go_wp2_with fail
  refine (big_any A0 C0 code.length _).mono ?_
  rintro e w1 ⟨rfl, b1⟩
  have zb1 := b1.size
  replace hx0 := hx0.below b1 (by omega)
  replace BB := Below.step b1 (by omega) BB
  clear b1
  rw [decide_eq_false (show ¬ (4096 : Int) < (code.length : Int) by omega)]
  go_wp2_with fail
  refine (drawFitting_any _ code _ _ _ hx0 (by omega) (by omega) hq0).mono ?_
  rintro e w2 ⟨v1, xs, v2, ps, index, rfl, hx6, hxb, hp9, hi1, hi2, h1, h2, b2⟩
  have zb2 := b2.size
  replace hx0 := hx0.below b2 (by omega)
  replace BB := Below.step b2 (by omega) BB
  clear b2
  obtain ⟨A1, c1, rfl, hcap1⟩ : ∃ A c, v1 = .slice A xs.length c ∧ xs.length ≤ c := by
    obtain ⟨rs, rfl, hR, -⟩ := h1
    obtain ⟨A, c, hv, hc⟩ := hR.form
    exact ⟨A, c, by rw [hv, List.length_map], by rw [List.length_map]; exact hc⟩
  obtain ⟨A2, c2, rfl, hcap2⟩ := h2.form
  have hs1 : ∀ x ∈ xs, Hearing.small x := fun x hx => Hearing.small_of (hxb x hx) (by omega)
  clear hxb
  clear hx0
  go_wp2_with fail
  refine (fittingChoices_any _ xs _ _ _ ps _ _ index _ h1 (by omega) (by omega) hs1 h2 (by omega) (by omega)).mono ?_
  rintro e w3 ⟨y3, rfl, hy3, b3⟩
  have zb3 := b3.size
  replace h1 := h1.below b3 (by omega)
  replace h2 := h2.below b3 (by omega)
  replace BB := Below.step b3 (by omega) BB
  clear b3
  go_wp2_with fail
  refine (sFittingChoices_any _ xs _ _ _ ps _ _ index _ h1 (by omega) (by omega) hs1 h2 (by omega) (by omega)).mono ?_
  rintro e w4 ⟨y4, rfl, hy4, b4⟩
  have zb4 := b4.size
  replace h1 := h1.below b4 (by omega)
  replace h2 := h2.below b4 (by omega)
  replace hy3 := hy3.below b4 (by omega)
  replace BB := Below.step b4 (by omega) BB
  clear b4
  have hml : (fittingChoices xs ps index).1.length ≤ 1048576 := fittingChoices_len (by omega)
  obtain ⟨Y3, K3, rfl, hcY3⟩ := hy3.rd.form
  go_wp2_with fail
  refine (likeInts_any _ _ (fittingChoices xs ps index).1 _ _ _ _ _ hy3.rd (by omega) hy4.rd (by omega) hml).mono ?_
  rintro e w5 ⟨rfl, b5⟩
  have zb5 := b5.size
  replace h1 := h1.below b5 (by omega)
  replace h2 := h2.below b5 (by omega)
  replace hy3 := hy3.below b5 (by omega)
  replace hy4 := hy4.below b5 (by omega)
  replace BB := Below.step b5 (by omega) BB
  clear b5
  clear hy4
  by_cases hz : (fittingChoices xs ps index).2 = 0
  rotate_left
  · generalize (fittingChoices xs ps index).2 = bad at *
    have hz' : (bad == 0) = false := by simpa using hz
    go_wp2_with fail
    go_loopw [10] (fun i wr => i = .int .i64 0 ∧ wr = w5) (fun i _ => 0)
    case atStart => exact ⟨rfl, rfl⟩
    case round =>
      obtain ⟨rfl, rfl⟩ := hrel
      go_wp2_with fail
      go_ret
      exact ⟨rfl, by (repeat (first | with_reducible assumption | with_reducible exact Below.refl _ _ | with_reducible refine Below.setCell ?_ ?_ _ | with_reducible refine Below.alloc ?_ ?_ _ | with_reducible refine Below.drew ?_ | with_reducible refine below_drewN ?_ _ | with_reducible refine Below.step (by with_reducible assumption) ?_ ?_ | omega | (simp <;> omega) | (simp; done)))⟩
  obtain ⟨i, a, rfl, HI, hboth, hF⟩ := fitting_zero hz
  rw [hF] at hy3 hml hcY3
  rw [hF]
  clear hz
  have HB := Lib.hid (hearingsOk_all (bothOk_h hboth))
  have HL := Lib.hid (slotsOk_all (bothOk_s hboth))
  obtain ⟨rs, hxs, hR, hP⟩ := h1
  have hnx : xs.length = rs.length := by rw [← hxs]; simp
  have hil : i < xs.length := (List.getElem?_eq_some_iff.1 HI).1
  have HS1 := Lib.hid hs1; clear hs1
  have HP := Lib.hid hP; clear hP
  have HF := Lib.hid hF; clear hF
  have HII := Lib.hid HI; clear HI
  have HBO := Lib.hid hboth; clear hboth
  simp only at hy3 hml hcY3
  go_wp2_with fail
  go_loopw [10] (fun j wr => ∃ k : Nat, k ≤ ps.length ∧ j = .int .i64 k ∧ Below w5.heap.size w5 wr) (fun j _ => ps.length - (intOf j).toNat)
  case atStart => exact ⟨0, Nat.zero_le _, rfl, Below.refl _ _⟩
  case round =>
    obtain ⟨k, hk, rfl, hbel⟩ := hrel
    have z9 := hbel.size
    by_cases hlt : k < ps.length
    · have hki : (k : Int) < (ps.length : Int) := by omega
      have hii : (i : Int) < (rs.length : Int) := by omega
      obtain ⟨s0, d0, of0, HT0, rfl, -, hdw0, c0_0, c0_1, c0_2⟩ := Slot.at h2 hbel (by omega) hlt
      obtain ⟨r0, b0, off0, HS0, e0, -, hbw0, a0_0, a0_1, a0_2, a0_3⟩ := RdHearing.at hR hbel (by omega) (show i < rs.length by omega)
      subst e0
      have HX0 := Lib.hid (show xs[i]? = some r0.h by rw [← hxs]; exact map_at (f := HearingR.h) rfl HS0.out)
      have hsm := HS1.out r0.h (List.mem_of_getElem? HX0.out)
      have HPr0 := Lib.hid (HP.out r0 (List.mem_of_getElem? HS0.out))
      obtain ⟨P0, C0, hpe0, hpc0⟩ := (HPr0.out).form
      have HF0 : RdF encStr 1 w5 _ _ (.slice P0 r0.h.people.length C0) r0.h.people := hpe0 ▸ HPr0.out
      rw [hpe0] at a0_2
      have HQ0 := Lib.hid hpe0
      clear hpe0 HPr0
      have HD := Lib.hid (show doesFit r0.h s0 = (decide ((k : Int) ∈ fitIdx a ps ps.length), 0) by
        have e1 : a = r0.h := by have := HII.out; rw [HX0.out] at this; injection this with this; exact this.symm
        rw [doesFit, HB.out _ (List.mem_of_getElem? HX0.out), HL.out _ (List.mem_of_getElem? HT0.out), mem_fitIdx hlt, fitI, HT0.out, e1]
        rfl)
      go_wp2_with fail
      go_region_held3 (fun w' => w'.cell? ⟨b0, off0 + i * 4, none⟩ = some (.string r0.h.code) ∧ w'.cell? ⟨b0, off0 + i * 4 + 1, none⟩ = some (.int .i64 r0.h.len) ∧ w'.cell? ⟨b0, off0 + i * 4 + 2, none⟩ = some (.slice P0 r0.h.people.length C0) ∧ w'.cell? ⟨b0, off0 + i * 4 + 3, none⟩ = some (.int .i64 r0.h.last) ∧ w'.cell? ⟨d0, of0 + k * 3, none⟩ = some (.int .i64 s0.room) ∧ w'.cell? ⟨d0, of0 + k * 3 + 1, none⟩ = some (.int .i64 s0.day) ∧ w'.cell? ⟨d0, of0 + k * 3 + 2, none⟩ = some (.int .i64 s0.frm)) (go_keep)
        (first | (go_at_call 17; refine (doesFit_any r0.h (.slice P0 r0.h.people.length C0) _ _ s0 _ ((HF0.below hbel (by omega)).below (B := wr.heap.size) (Below.refl _ wr).drew (by omega)) (by show _ ≤ wr.heap.size; omega) hsm).mono ?_; rintro e wq ⟨rfl, bq⟩; replace bq : Below wr.heap.size wr wq := Below.undrew bq; have zq := bq.size; have kq0 := (bq.cell (p := ⟨b0, off0 + i * 4, none⟩) (by show b0 < _; omega)).trans a0_0; have kq1 := (bq.cell (p := ⟨b0, off0 + i * 4 + 1, none⟩) (by show b0 < _; omega)).trans a0_1; have kq2 := (bq.cell (p := ⟨b0, off0 + i * 4 + 2, none⟩) (by show b0 < _; omega)).trans a0_2; have kq3 := (bq.cell (p := ⟨b0, off0 + i * 4 + 3, none⟩) (by show b0 < _; omega)).trans a0_3; have kq4 := (bq.cell (p := ⟨d0, of0 + k * 3, none⟩) (by show d0 < _; omega)).trans c0_0; have kq5 := (bq.cell (p := ⟨d0, of0 + k * 3 + 1, none⟩) (by show d0 < _; omega)).trans c0_1; have kq6 := (bq.cell (p := ⟨d0, of0 + k * 3 + 2, none⟩) (by show d0 < _; omega)).trans c0_2))
      clear kq0 kq1 kq2 kq3 kq4 kq5 kq6
      have hbq := Below.step bq z9 hbel
      clear bq
      rw [HD.out]
      go_wp2_with fail
      refine (hasInt_any _ (fitIdx a ps ps.length) _ _ (k : Int) _ (hy3.rd.below hbq (by omega)) (by omega) hml).mono ?_
      rintro e w9 ⟨rfl, b9⟩
      have hb9 := Below.step b9 (by omega) hbq
      generalize decide ((k : Int) ∈ fitIdx a ps ps.length) = bv at *
      go_wp2_with fail
      go_roundw
      case rel => exact ⟨k + 1, by omega, by go_num, hb9⟩
      case measure => simp [intOf]; omega
    · go_wp2_with fail
      go_ret
      exact ⟨rfl, by (repeat (first | with_reducible assumption | with_reducible exact Below.refl _ _ | with_reducible refine Below.setCell ?_ ?_ _ | with_reducible refine Below.alloc ?_ ?_ _ | with_reducible refine Below.drew ?_ | with_reducible refine below_drewN ?_ _ | with_reducible refine Below.step (by with_reducible assumption) ?_ ?_ | omega | (simp <;> omega) | (simp; done)))⟩

set_option maxRecDepth 100000 in
theorem lifted (os : Os) (started : os.Started) (H : Type) (enc : TypeId × Value → H) :
    ReturnsInHanded {} Try.checked os 12 .any (Rows.fnFittingSpec.pre6 enc Try.prog Try.f12 Rows.fnFittingRow.domain false) (Rows.fnFittingSpec.post enc Try.prog Try.f12 false true false false) := by
  refine returnsInHanded_of_change (C := Try.checked) own started (by kernel_rfl) Try.func12
    (ChangeSpec.witness6 (enc := enc) (C := Try.checked) false ⟨#[], #[.slice none 0 0], []⟩ 8 (by kernel_rfl) (by kernel_rfl) (by kernel_rfl) (by kernel_rfl)) ?_
  intro W base args ds gs before hval0 hW hcnd _
  have hval : ∀ (j : Nat) t v, Try.f12.params[j]? = some t → args[j]? = some v → Value.okWide Try.prog W .any base t v := hval0
  have hW' := hW
  obtain ⟨p, q, hA0, hV, rfl, hfz, hnd⟩ := hW
  have hA : DataW.TrodAll enc Try.prog W 0 (fun _ => true) true Try.f12.params.toList args.toList ds p := hA0
  rw [Try.params12] at hA hval
  obtain ⟨v0, vs0, d0, ds0, p0, q0, hargs, rfl, rfl, h0, r0⟩ := trodAll_cons hA
  obtain ⟨rfl, rfl, rfl⟩ := trodAll_nil r0
  obtain rfl : args = #[v0] := by cases args; simp_all
  obtain ⟨rfl, rfl⟩ := trodVars_none hV
  have k0 := h0
  have lt0 : ∀ x ∈ p0, x.block < W.heap.size := by obtain ⟨m, hm⟩ := k0; exact DataW.trod_lt m _ _ _ hm
  obtain ⟨code, hx0, hl0, hq0⟩ := open_bytes Try.underlying70 Try.underlying5 (by kernel_rfl) (hval 0 70 v0 rfl rfl) h0
  clear hA0 hval0
  refine (walk v0 code W hx0 hl0 hq0).mono fun e W' ⟨he, bel⟩ => ?_
  subst he
  exact ⟨_, rfl, _, _, _, [], _, [], hW', trodAll_mk1 (shut_bool Try.underlying4 _), (trodAll_cons_mk (Below.trod laidOut (by kernel_rfl) (of_decide_eq_true (by kernel_rfl)) k0 bel lt0) trodAll_mk0), rfl, bel.frame _, fun h => by cases h⟩

theorem over : Rows.fnFittingRow.holds Try.pinned (OpenSpec.ofChange Rows.fnFittingSpec) :=
  OpenClaim.holds_of_wide 12 Try.f12 rfl rfl rfl rfl rfl rfl rfl ⟨rfl, rfl, rfl, rfl, rfl⟩ rfl rfl rfl rfl rfl (by kernel_rfl) Try.func12 (by kernel_rfl)
    (of_decide_eq_true (by kernel_rfl)) (by unfold Func.isWrapper; first | (rw [if_pos (by decide +kernel)]; kernel_rfl) | (rw [if_neg (by decide +kernel)]; exact ⟨rfl, rfl⟩))
    (fun os started H enc _ => lifted os started H enc)

theorem proved : Rows.FnFittingSaid := over
#print axioms proved
end Go.Proofs.Ytdcfenkkgnnbbaa.fitting
