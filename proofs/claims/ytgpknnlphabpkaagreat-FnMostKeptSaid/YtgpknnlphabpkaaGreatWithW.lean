/- Walks: the numbers of a list that are not in another one (slices.DeleteFunc with a closure). -/
import Derived.Test.YtgpknnlphabpkaaGreatRowI
import Derived.Test.YtgpknnlphabpkaaGreatIntsW
import Derived.Lib.SliceRun
namespace Go.Proofs.YtgpknnlphabpkaaGreat
open Go.RowKit
set_option linter.unusedVariables false

theorem Blk.sets {t : TypeId} {g : Nat} : ∀ (us : List Value) (o : Nat) (w : World) (ar : Array Value), Blk w g t ar → Blk (w.setCells g o us) g t (setL ar o us)
  | [], _, _, _, h => h
  | u :: us, o, w, ar, h => Blk.sets us (o + 1) _ _ (h.set_ o u)
theorem Chg.sets {lo hi g : Nat} {a : World} (h1 : lo ≤ g) (h2 : g < hi) : ∀ (us : List Value) (o : Nat) (w : World), Chg lo hi a w → Chg lo hi a (w.setCells g o us)
  | [], _, _, h => h
  | u :: us, o, w, h => Chg.sets h1 h2 us (o + 1) _ (h.setCell (p := ⟨g, o, none⟩) h1 h2 u)
theorem int_zero {P : Program} {t : TypeId} (h : (P.info? t).map (fun i => (i.zero, i.size, i.bytes)) = some (some (.int .i64 0), 1, 8)) : ∀ w, (zeroValue t).run P w = .ok (.int .i64 0) w := by
  obtain ⟨i, hi, hz, -, -⟩ := info_parts h
  intro w
  simp [zeroValue, typeInfo, hi, hz]
def notIn (ys : List Int) (x : Int) : Bool := !hasI ys x
def withoutL (xs ys : List Int) : List Int := xs.filter (notIn ys)
theorem kept_yes {p : Int → Bool} {xs : List Int} {j : Nat} {x : Int} (h : xs[j]? = some x) (hp : p x = true) : (xs.take (j + 1)).filter p = (xs.take j).filter p ++ [x] := by
  rw [List.take_add_one, h, List.filter_append]
  simp [hp]
theorem kept_no {p : Int → Bool} {xs : List Int} {j : Nat} {x : Int} (h : xs[j]? = some x) (hp : p x = false) : (xs.take (j + 1)).filter p = (xs.take j).filter p := by
  rw [List.take_add_one, h, List.filter_append]
  simp [hp]
/-- The first place where p holds. -/
def IdxIs (p : Int → Bool) (xs : List Int) (r : Int) : Prop := (r = -1 ∧ xs.any p = false) ∨ ∃ (i : Nat) (x : Int), r = (i : Int) ∧ xs[i]? = some x ∧ (xs.take i).any p = false ∧ p x = true
/-- While elements are struck: the first cells hold those that are kept, the cells from j on are as they were. -/
def KeepTo (p : Int → Bool) (xs : List Int) (ar : Array Value) (j : Nat) : Prop := (∀ (m : Nat) (x : Int), ((xs.take j).filter p)[m]? = some x → ar[m]? = some (Value.int .i64 x)) ∧ (∀ (m : Nat) (x : Int), j ≤ m → xs[m]? = some x → ar[m]? = some (Value.int .i64 x)) ∧ ((xs.take j).filter p).length < j
theorem KeepTo.skip {p : Int → Bool} {xs : List Int} {ar : Array Value} {j : Nat} {x : Int} (h : KeepTo p xs ar j) (hx : xs[j]? = some x) (hp : p x = false) : KeepTo p xs ar (j + 1) := by
  obtain ⟨a, b, c⟩ := h
  unfold KeepTo
  rw [kept_no hx hp]
  exact ⟨a, fun m y hm hy => b m y (by omega) hy, by omega⟩
theorem KeepTo.keep {p : Int → Bool} {xs : List Int} {ar : Array Value} {j : Nat} {x : Int} (h : KeepTo p xs ar j) (hx : xs[j]? = some x) (hp : p x = true) (hs : j < ar.size) : KeepTo p xs (ar.setIfInBounds ((xs.take j).filter p).length (.int .i64 x)) (j + 1) := by
  obtain ⟨a, b, c⟩ := h
  unfold KeepTo
  rw [kept_yes hx hp]
  refine ⟨fun m y hy => ?_, fun m y hm hy => ?_, by rw [List.length_append]; simp; omega⟩
  · by_cases hm : m = ((xs.take j).filter p).length
    · subst hm
      rw [List.getElem?_append_right (Nat.le_refl _)] at hy
      simp at hy
      subst hy
      rw [Array.getElem?_setIfInBounds_self, if_pos (by omega)]
    · have hml : m < ((xs.take j).filter p).length := by
        have := (List.getElem?_eq_some_iff.1 hy).1
        rw [List.length_append] at this
        simp at this
        omega
      rw [List.getElem?_append_left hml] at hy
      rw [Array.getElem?_setIfInBounds_ne (by omega)]
      exact a m y hy
  · rw [Array.getElem?_setIfInBounds_ne (by omega)]
    exact b m y (by omega) hy
theorem filter_of_none {p q : Int → Bool} (hq : ∀ x, q x = !p x) {xs : List Int} (h : xs.any p = false) : xs.filter q = xs := by
  rw [List.filter_eq_self]
  intro x hx
  rw [hq]
  have : p x = false := by
    rw [List.any_eq_false] at h
    simpa using h x hx
  rw [this]; rfl
theorem KeepTo.start {p : Int → Bool} {xs : List Int} {ar : Array Value} {i : Nat} {x : Int} (h : ∀ (m : Nat) (y : Int), xs[m]? = some y → ar[m]? = some (Value.int .i64 y)) (hx : xs[i]? = some x) (hn : (xs.take i).any p = false) (hp : p x = true) : KeepTo (fun y => !p y) xs ar (i + 1) ∧ ((xs.take (i + 1)).filter fun y => !p y).length = i := by
  have hi : i < xs.length := (List.getElem?_eq_some_iff.1 hx).1
  have e : (xs.take (i + 1)).filter (fun y => !p y) = xs.take i := by rw [kept_no hx (by rw [hp]; rfl), filter_of_none (fun _ => rfl) hn]
  have hl : (xs.take i).length = i := by rw [List.length_take]; omega
  unfold KeepTo
  rw [e]
  refine ⟨⟨fun m y hy => ?_, fun m y _ hy => h m y hy, by omega⟩, hl⟩
  rw [List.getElem?_take] at hy
  split at hy
  · exact h m y hy
  · cases hy

set_option maxHeartbeats 400000 in
theorem withoutFn_any (x : Int) (b : Nat) (A : Option Addr) (c : Nat) (ys : List Int) (lo hi : Nat) (w : World) (hc : w.cell? ⟨b, 0, none⟩ = some (.slice A ys.length c)) (h : RdF encInt 1 w lo hi (.slice A ys.length c) ys) (hh : hi ≤ w.heap.size) (hm : ys.length ≤ 1048576) :
    Calls Tryz.prog 93 #[.int .i64 x, .pointer (some ⟨b, 0, none⟩)] w fun e w' => e = .returned (.bool (hasI ys x)) ∧ w = w' := by
  go_enter Tryz.func93, Tryz.ntmps93
  go_wp2_with (go_at_call 94; refine (hasInt_any _ ys _ _ x _ h hh hm).mono ?_; rintro e w' ⟨rfl, rfl⟩)
  go_ret
  exact ⟨rfl, rfl⟩
set_option maxRecDepth 100000 in
set_option maxHeartbeats 1000000 in
theorem withoutIdx_any (v : Value) (xs : List Int) (lo hi : Nat) (b : Nat) (A : Option Addr) (c : Nat) (ys : List Int) (lo2 hi2 : Nat) (w : World) (h : RdF encInt 1 w lo hi v xs) (hh : hi ≤ w.heap.size) (hm : xs.length ≤ 1048576) (hc : w.cell? ⟨b, 0, none⟩ = some (.slice A ys.length c)) (h2 : RdF encInt 1 w lo2 hi2 (.slice A ys.length c) ys) (hh2 : hi2 ≤ w.heap.size) (hm2 : ys.length ≤ 1048576) :
    Calls Tryz.prog 114 #[v, .func (.func 93) #[] #[.pointer (some ⟨b, 0, none⟩)]] w fun e w' => ∃ r : Int, e = .returned (.int .i64 r) ∧ IdxIs (hasI ys) xs r ∧ w = w' := by
  obtain ⟨A1, c1, rfl, hcap⟩ := h.form
  go_enter Tryz.func114, Tryz.ntmps114
  go_wp2
  go_loop [5, 8] (fun _ i => ∃ k : Nat, k ≤ xs.length ∧ i = .int .i64 k ∧ Hid ((xs.take k).any (hasI ys) = false)) (fun _ i => xs.length - (intOf i).toNat)
  case atStart => exact ⟨0, Nat.zero_le _, rfl, rfl⟩
  case round =>
    obtain ⟨k, hk, rfl, HA⟩ := hrel
    by_cases hlt : k < xs.length
    · obtain ⟨x, b', off', HS, rfl, hbw, c0⟩ := RdF.int h (Below.refl w.heap.size w) (by omega) hlt
      go_wp2_with (go_at_call 93; refine (withoutFn_any x b A c ys lo2 hi2 _ hc h2 hh2 hm2).mono ?_; rintro e w1 ⟨rfl, rfl⟩)
      · have hf : hasI ys x = true := by assumption
        go_ret
        exact ⟨_, rfl, .inr ⟨k, x, rfl, HS.out, HA.out, hf⟩, rfl⟩
      · have hf : hasI ys x = false := by assumption
        go_round
        case rel => exact ⟨k + 1, by omega, by go_num, Lib.hid (any_take_succ (p := hasI ys) HA.out HS.out hf)⟩
        case measure => simp [intOf]; omega
    · go_wp2
      go_ret
      exact ⟨_, rfl, .inl ⟨rfl, any_of_take HA.out hlt⟩, rfl⟩
set_option maxRecDepth 100000 in
set_option maxHeartbeats 2000000 in
theorem deleteInt_any (v : Value) (xs : List Int) (lo hi : Nat) (b : Nat) (A : Option Addr) (c : Nat) (ys : List Int) (lo2 hi2 : Nat) (w : World) (h : RdW encInt 1 2 w lo hi v xs) (hh : hi ≤ w.heap.size) (hm : xs.length ≤ 1048576) (hb : b < lo) (hc : w.cell? ⟨b, 0, none⟩ = some (.slice A ys.length c)) (h2 : RdF encInt 1 w lo2 hi2 (.slice A ys.length c) ys) (hh2 : hi2 ≤ lo) (hlo : lo ≤ w.heap.size) (hm2 : ys.length ≤ 1048576) :
    Calls Tryz.prog 91 #[v, .func (.func 93) #[] #[.pointer (some ⟨b, 0, none⟩)]] w fun e w' => ∃ v' : Value, e = .returned v' ∧ RdW encInt 1 2 w' lo hi v' (withoutL xs ys) ∧ Chg lo hi w w' := by
  obtain ⟨A1, c1, rfl, hcap⟩ := h.form
  have hrd := h.rd
  go_enter Tryz.func91, Tryz.ntmps91
  go_wp2_with fail
  refine (withoutIdx_any _ xs lo hi b A c ys lo2 hi2 _ hrd hh hm hc h2 (by omega) hm2).mono ?_
  rintro e w1 ⟨r, rfl, hr, rfl⟩
  rcases hr with ⟨hr, hn⟩ | ⟨i, x, hr, hx, hn, hp⟩
  · subst hr
    have HE := Lib.hid (show withoutL xs ys = xs from filter_of_none (fun _ => rfl) hn)
    clear hn
    go_wp2_with fail
    go_ret
    exact ⟨_, rfl, by rw [HE.out]; exact h, Chg.refl _ _ _⟩
  · subst hr
    have hi' : i < xs.length := (List.getElem?_eq_some_iff.1 hx).1
    obtain ⟨A', c', hv, hc', hA⟩ := h
    injection hv with e1 e2 e3
    subst e1 e3
    obtain ⟨g, arr, rfl, hg1, hg2, hblk, hsz, hrow⟩ := hA (by omega)
    have hst := KeepTo.start (p := hasI ys) (ar := arr) (fun m y hy => by
      have := hrow m y ((List.getElem?_eq_some_iff.1 hy).1) hy 0 _ rfl
      simpa using this) hx hn hp
    have hne : ((i : Int) == -1) = false := by rw [beq_eq_false_iff_ne]; omega
    have HKL := Lib.hid hst.2
    have HK0 := Lib.hid hst.1
    clear hst hrow hA e2 hx hn hp hrd
    go_wp2_with fail
    go_loopw [5, 6, 7] (fun u q _ wr => ∃ (j m : Nat) (ar : Array Value), j ≤ xs.length ∧ q = .int .i64 j ∧ u = .int .i64 m ∧ m < j ∧ Hid (((xs.take j).filter (notIn ys)).length = m) ∧ Hid (KeepTo (notIn ys) xs ar j) ∧ Hid (ar.size = arr.size) ∧ Blk wr g 2 ar ∧ Chg lo hi w wr) (fun _ q _ _ => xs.length - (intOf q).toNat)
    case atStart => exact ⟨i + 1, i, arr, by omega, by go_num, rfl, by omega, HKL, HK0, rfl, hblk, Chg.refl _ _ _⟩
    case round =>
      obtain ⟨j, m, ar, hj, rfl, rfl, hmj, HL, HK, HZ, hbr, hcg⟩ := hrel
      have z0 := hcg.size
      have hca : ar.size = arr.size := HZ.out
      have hsz2 : xs.length ≤ ar.size := by omega
      clear hca
      have hc1 : wr.cell? ⟨b, 0, none⟩ = some (.slice A ys.length c) := (World.cell?_of_block (w := w) (hcg.block b (by omega) (.inl hb))).trans hc
      have h21 := h2.chg hcg (by omega) (.inl hh2)
      by_cases hlt : j < xs.length
      · have hji : (j : Int) < (xs.length : Int) := by omega
        have hmi : (m : Int) < (xs.length : Int) := by omega
        have HX := Lib.hid (List.getElem?_eq_getElem hlt)
        generalize xs[j] = x at *
        have hcx : wr.cell? ⟨g, j, none⟩ = some (.int .i64 x) := by rw [hbr.cell]; exact HK.out.2.1 j x (Nat.le_refl _) HX.out
        obtain ⟨u0, hcm⟩ := hbr.some_ m (by omega)
        have hfm := hbr.frozen m
        clear hc
        cases hq : hasI ys x with
        | false =>
          have hnq : notIn ys x = true := by unfold notIn; rw [hq]; rfl
          have HN := Lib.hid (HK.out.keep HX.out hnq (by omega))
          have HL2 := Lib.hid (show ((xs.take (j + 1)).filter (notIn ys)).length = m + 1 by rw [kept_yes HX.out hnq, List.length_append, HL.out]; rfl)
          clear hnq
          rw [HL.out] at HN
          go_wp2_with (go_at_call 93; refine (withoutFn_any x b A c ys lo2 hi2 _ hc1 h21 (by omega) hm2).mono ?_; rintro e w1 ⟨rfl, rfl⟩; rw [hq])
          go_roundw
          case rel => exact ⟨j + 1, m + 1, ar.setIfInBounds m (.int .i64 x), by omega, by go_num, by go_num, by omega, HL2, HN, (by show _ = _; rw [Array.size_setIfInBounds]; exact HZ.out), hbr.set_ m _, hcg.setCell (p := ⟨g, m, none⟩) hg1 hg2 _⟩
          case measure => simp [intOf]; omega
        | true =>
          have hnq : notIn ys x = false := by unfold notIn; rw [hq]; rfl
          have HN := Lib.hid (HK.out.skip HX.out hnq)
          have HL2 := Lib.hid (show ((xs.take (j + 1)).filter (notIn ys)).length = m by rw [kept_no HX.out hnq, HL.out])
          clear hnq
          go_wp2_with (go_at_call 93; refine (withoutFn_any x b A c ys lo2 hi2 _ hc1 h21 (by omega) hm2).mono ?_; rintro e w1 ⟨rfl, rfl⟩; rw [hq])
          go_roundw
          case rel => exact ⟨j + 1, m, ar, by omega, by go_num, rfl, by omega, HL2, HN, HZ, hbr, hcg⟩
          case measure => simp [intOf]; omega
      · have hjn : j = xs.length := by omega
        have hmi : (m : Int) < (xs.length : Int) := by omega
        have hcm : (m : Int) ≤ (c1 : Int) := by omega
        have hne2 : ¬ c1 = m := by omega
        have hcl : ∀ ty, (Builtin.clear_ #[29] ty #[.slice (some ⟨g, m, none⟩) (xs.length - m) (c1 - m)]).run Tryz.prog wr = .ok (.tuple #[]) (wr.setCells g m (List.replicate (xs.length - m) (.int .i64 0))) :=
          fun ty => Lib.run_clear_slice wr 29 2 ty (.int .i64 0) Tryz.underlying29 (fun w => int_zero (P := Tryz.prog) (t := 2) (by kernel_rfl) w) rfl rfl g m _ _ (by omega) (fun t ht => by rw [hbr.cellv (m + t) (by omega)]; rfl) (fun t ht => hbr.frozen (m + t))
        have HW := Lib.hid (show withoutL xs ys = (xs.take j).filter (notIn ys) by rw [hjn, List.take_length]; rfl)
        clear hjn
        go_wp2_with fail
        go_ret
        refine ⟨_, rfl, ?_, Chg.sets hg1 hg2 _ _ _ hcg⟩
        rw [HW.out]
        refine ⟨some ⟨g, 0, none⟩, c1, by rw [HL.out]; rfl, by rw [HL.out]; omega, fun hpos => ⟨g, _, rfl, hg1, hg2, hbr.sets _ _ _, by rw [setL_size, HL.out]; omega, ?_⟩⟩
        intro q y hq hy k u hu
        have hk : k = 0 := by
          have := (List.getElem?_eq_some_iff.1 hu).1
          simpa [encInt] using this
        subst hk
        simp [encInt] at hu
        subst hu
        rw [HL.out] at hq
        simp only [Nat.mul_one, Nat.add_zero]
        rw [setL_other _ _ _ _ (.inl hq)]
        exact HK.out.1 q y hy
set_option maxRecDepth 100000 in
set_option maxHeartbeats 1000000 in
theorem without_any (v : Value) (xs : List Int) (lo hi : Nat) (v2 : Value) (ys : List Int) (lo2 hi2 : Nat) (w : World) (h : RdF encInt 1 w lo hi v xs) (hh : hi ≤ w.heap.size) (hm : xs.length ≤ 1048576) (h2 : RdF encInt 1 w lo2 hi2 v2 ys) (hh2 : hi2 ≤ w.heap.size) (hm2 : ys.length ≤ 1048576) :
    Calls Tryz.prog 56 #[v, v2] w fun e w' => RetV (fun v' w' => RdW encInt 1 2 w' w.heap.size w'.heap.size v' (withoutL xs ys)) w e w' := by
  obtain ⟨A, c, rfl, hcap⟩ := h.form
  obtain ⟨A2, c2, rfl, hcap2⟩ := h2.form
  have hb0 : Below w.heap.size w (w.alloc (.cells #[.slice A2 ys.length c2] 29)) := (Below.refl _ _).alloc (Nat.le_refl _) _
  have hz : (w.alloc (.cells #[.slice A2 ys.length c2] 29)).heap.size = w.heap.size + 1 := by simp
  have kA := Blk.newAt (w := w) (n := w.heap.size) (t := 29) (cs := #[.slice A2 ys.length c2]) rfl
  replace h := h.below hb0 hh
  replace h2 := h2.below hb0 hh2
  go_enter Tryz.func56, Tryz.ntmps56
  go_wp2_with fail
  generalize (w.alloc (.cells #[.slice A2 ys.length c2] 29)) = W0 at *
  refine (cloneInt_any _ xs lo hi _ h (by omega) hm).mono ?_
  rintro e w1 ⟨v1, rfl, ho1, b1⟩
  have z1 := b1.size
  have hw1 := ho1.rdw (fun _ => rfl)
  have kB := kA.below b1 (by omega)
  have h21 := h2.below b1 (by omega)
  go_wp2_with fail
  refine (deleteInt_any _ xs W0.heap.size w1.heap.size w.heap.size A2 c2 ys lo2 hi2 _ hw1 (Nat.le_refl _) hm (by omega) (kB.cell 0) h21 (by omega) z1 hm2).mono ?_
  rintro e w2 ⟨v2, rfl, hw2, cg⟩
  have z2 := cg.size
  go_wp2_with fail
  go_ret
  exact ⟨_, rfl, hw2.wide (by omega) z2, Below.step (cg.below (Nat.le_refl _) z1) (by omega) (Below.step b1 (by omega) hb0)⟩
end Go.Proofs.YtgpknnlphabpkaaGreat
