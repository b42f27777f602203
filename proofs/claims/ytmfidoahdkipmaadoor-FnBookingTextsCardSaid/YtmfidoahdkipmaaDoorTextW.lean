/- Walks of the reference's texts: decimals, joining, splitting, reading numbers. -/
import Derived.Test.YtmfidoahdkipmaaDoorTextQ
import Derived.Test.YtmfidoahdkipmaaDoorBase
import Derived.Test.YtmfidoahdkipmaaDoorIntsH
import Derived.Test.YtmfidoahdkipmaaDoorStrsH
import Derived.Test.YtmfidoahdkipmaaDoorMem4
import Derived.Test.YtmfidoahdkipmaaDoorMem2
import Derived.Laws.DeepStrings4
import Derived.Deep.RegionHeld3
namespace Go.Proofs.YtmfidoahdkipmaaDoor
open Go.RowKit
set_option linter.unusedVariables false

theorem byte_wrap {n : Int} (h0 : 0 ≤ n) (h1 : n < 10) : IntKind.u8.wrap (48 + n) = 48 + n := by simp [IntKind.wrap, IntKind.bits, IntKind.signed]; omega
theorem one_dig {n : Int} (h0 : 0 ≤ n) : strOfNums [48 + n] = ⟨#[UInt8.ofNat (48 + n.toNat)]⟩ := by
  have e : (48 + n).toNat = 48 + n.toNat := by omega
  show (⟨#[UInt8.ofNat (48 + n).toNat]⟩ : ByteArray) = _
  rw [e]
theorem encStr_unit (s : ByteArray) : ∀ u ∈ encStr s, u.oneCell' = true := by
  intro u hu
  simp [encStr] at hu
  subst hu
  rfl
theorem encInt_unit (n : Int) : ∀ u ∈ encInt n, u.oneCell' = true := by
  intro u hu
  simp [encInt] at hu
  subst hu
  rfl
theorem natB_eq (u : Nat) (s : ByteArray) : ((natB u).toList == s.toList) = decide (Lib.decDigits u = s.data.toList) := by
  rw [Bool.eq_iff_iff, beq_iff_eq, toList_inj, decide_eq_true_iff]
  constructor
  · intro h; rw [← h]; simp [natB]
  · intro h; unfold natB; rw [h]
set_option maxRecDepth 100000 in
set_option maxHeartbeats 2000000 in
theorem l01Dec_upto : ∀ (m : Nat) (n : Int) (w : World), 0 ≤ n → n < m → n ≤ 1000000000000000000 →
    Calls Tryd.prog 59 #[.int .i64 n] w fun e w' => e = .returned (.string (natB n.toNat)) ∧ Below w.heap.size w w' := by
  intro m
  induction m with
  | zero => intro n w h0 h1; omega
  | succ m ih =>
    intro n w h0 h1 h2
    by_cases hlt : n < 10
    · have e1 := byte_wrap h0 hlt
      have hcv := run_convert_bytes_arg (P := Tryd.prog) (w.alloc (.cells #[.int .u8 (48 + n)] 5)) 34 5 Tryd.underlying34 Tryd.underlying5 w.heap.size 0 1 1 [48 + n] rfl (fun i hi => by have hi0 : i = 0 := by { omega }; subst hi0; exact (Blk.new w 5 _).cell 0) 9 Tryd.underlying9
      go_enter Tryd.func59, Tryd.ntmps59
      go_wp2_with fail
      go_ret
      exact ⟨by rw [one_dig h0, natB_small (by omega)]; rfl, by (repeat (first | with_reducible assumption | with_reducible exact Below.refl _ _ | with_reducible refine Below.setCell ?_ ?_ _ | with_reducible refine Below.alloc ?_ ?_ _ | with_reducible refine Below.drew ?_ | with_reducible refine below_drewN ?_ _ | with_reducible refine Below.step (by with_reducible assumption) ?_ ?_ | omega | (simp <;> omega) | (simp; done)))⟩
    · have HN := Lib.hid (natB_step (u := n.toNat) (by omega))
      have hz := natB_size (n / 10).toNat
      have e2 : (strOfNums [48 + n % 10]).size = 1 := rfl
      have q1 : IntKind.i64.wrap (n.tdiv 10) = n / 10 := by rw [Int.tdiv_eq_ediv_of_nonneg h0]; simp [IntKind.wrap, IntKind.bits, IntKind.signed]; omega
      have q0 : n.tmod 10 = n % 10 := Int.tmod_eq_emod_of_nonneg h0
      have m0 : 0 ≤ n % 10 := by omega
      have m1 : n % 10 < 10 := by omega
      have q3 : IntKind.i64.wrap (n % 10) = n % 10 := by simp [IntKind.wrap, IntKind.bits, IntKind.signed]; omega
      have q4 : IntKind.i64.wrap (48 + n % 10) = 48 + n % 10 := by simp [IntKind.wrap, IntKind.bits, IntKind.signed]; omega
      have q2 := byte_wrap m0 m1
      have hcv := fun (W : World) (g : Nat) (hg : W.cell? ⟨g, 0, none⟩ = some (.int .u8 (48 + n % 10))) => run_convert_bytes_arg (P := Tryd.prog) W 34 5 Tryd.underlying34 Tryd.underlying5 g 0 1 1 [48 + n % 10] rfl (fun i hi => by have hi0 : i = 0 := by { omega }; subst hi0; exact hg) 9 Tryd.underlying9
      have hcw := hcv (w.alloc (.cells #[.int .u8 (48 + n % 10)] 5)).drew w.heap.size ((Blk.drew (Blk.newAt (t := 5) (cs := #[.int .u8 (48 + n % 10)]) rfl)).cell 0)
      have hov : ¬ 9223372036854775807 < (natB (n / 10).toNat).size + 1 := by omega
      go_enter Tryd.func59, Tryd.ntmps59
      go_wp2_with fail
      go_region_held (fun w' => True) (trivial)
        (first
          | (go_at_call 59; refine (ih (n / 10) _ (by omega) (by omega) (by omega)).mono ?_; rintro e w1 ⟨rfl, b1⟩; have hcw1 := hcv (w1.alloc (.cells #[.int .u8 (48 + n % 10)] 5)) w1.heap.size ((Blk.newAt (t := 5) (cs := #[.int .u8 (48 + n % 10)]) rfl).cell 0); have z1 : w.heap.size ≤ w1.heap.size := (by have := b1.size; simp at this; omega); (try (have kB := Blk.below (Blk.drew (Blk.newAt (n := w.heap.size) (t := 5) (cs := #[.int .u8 (48 + n % 10)]) (by rfl))) b1 (by simp <;> omega); have kb0 : w1.cell? ⟨w.heap.size, 0, none⟩ = some (.int .u8 (48 + n % 10)) := kB.cell 0))))
      all_goals (
        try go_wp2_with fail
        go_ret
        exact ⟨by rw [HN.out, one_dig (by omega), show n.toNat / 10 = (n / 10).toNat by omega, show n.toNat % 10 = (n % 10).toNat by omega]; rfl, by (repeat (first | with_reducible assumption | with_reducible exact Below.refl _ _ | with_reducible refine Below.setCell ?_ ?_ _ | with_reducible refine Below.alloc ?_ ?_ _ | with_reducible refine Below.drew ?_ | with_reducible refine below_drewN ?_ _ | with_reducible refine Below.step (by with_reducible assumption) ?_ ?_ | omega | (simp <;> omega) | (simp; done)))⟩)
theorem l01Dec_any (n : Int) (w : World) (h0 : 0 ≤ n) (h1 : n ≤ 1000000000000000000) : Calls Tryd.prog 59 #[.int .i64 n] w fun e w' => e = .returned (.string (natB n.toNat)) ∧ Below w.heap.size w w' :=
  l01Dec_upto (n.toNat + 1) n w h0 (by omega) h1
set_option maxRecDepth 100000 in
set_option maxHeartbeats 1000000 in
theorem l01Number_any (n : Int) (w : World) (h0 : -1000000000000000 ≤ n) (h1 : n ≤ 1000000000000000) : Calls Tryd.prog 48 #[.int .i64 n] w fun e w' => e = .returned (.string (numB n)) ∧ Below w.heap.size w w' := by
  by_cases hlt : n < 0
  · have HN := Lib.hid (numB_neg hlt)
    have hz := numB_size h0 h1
    rw [HN.out, ByteArray.size_append] at hz
    go_enter Tryd.func48, Tryd.ntmps48
    go_wp2_with fail
    refine (l01Dec_any (-n) _ (by omega) (by omega)).mono ?_
    rintro e w1 ⟨rfl, b1⟩
    go_wp2_with fail
    go_ret
    exact ⟨by rw [HN.out] <;> rfl, b1⟩
  · have HN := Lib.hid (numB_pos hlt)
    go_enter Tryd.func48, Tryd.ntmps48
    go_wp2_with fail
    refine (l01Dec_any n _ (by omega) (by omega)).mono ?_
    rintro e w1 ⟨rfl, b1⟩
    go_wp2_with fail
    go_ret
    exact ⟨by rw [HN.out] <;> rfl, b1⟩
set_option maxRecDepth 100000 in
set_option maxHeartbeats 1000000 in
theorem l01Join_any (v : Value) (xs : List Int) (lo hi : Nat) (w : World) (h : RdF encInt 1 w lo hi v xs) (hh : hi ≤ w.heap.size) (hm : xs.length ≤ 1000) (hb : ∀ x ∈ xs, -1000000000000000 ≤ x ∧ x ≤ 1000000000000000) :
    Calls Tryd.prog 34 #[v, .string ⟨#[47]⟩] w fun e w' => e = .returned (.string (joinB xs)) ∧ Below w.heap.size w w' := by
  obtain ⟨A, c, rfl, hc⟩ := h.form
  have HB := Lib.hid hb; clear hb
  have hj1 : (ByteArray.mk #[47]).size = 1 := rfl
  go_enter Tryd.func34, Tryd.ntmps34
  go_wp2_with fail
  go_loopw [5, 6] (fun o i wr => ∃ k : Nat, k ≤ xs.length ∧ i = .int .i64 k ∧ o = .string (joinB (xs.take k)) ∧ (joinB (xs.take k)).size ≤ 22 * k ∧ Below w.heap.size w wr) (fun _ i _ => xs.length - (intOf i).toNat)
  case atStart => exact ⟨0, Nat.zero_le _, rfl, rfl, Nat.le_refl _, Below.refl _ _⟩
  case round =>
    obtain ⟨k, hk, rfl, rfl, hz, hbel⟩ := hrel
    have z0 := hbel.size
    by_cases hlt : k < xs.length
    · have hki : (k : Int) < (xs.length : Int) := by omega
      obtain ⟨x, b, off, HS, rfl, -, hbw, hcell⟩ := RdF.get h hbel hh hlt
      have x1 : wr.cell? ⟨b, off + k, none⟩ = some (.int .i64 x) := by simpa [encInt] using hcell 0 _ rfl
      clear hcell
      obtain ⟨hx0, hx1⟩ := HB.out x (List.mem_of_getElem? HS.out)
      have hn := numB_size hx0 hx1
      by_cases h0 : k = 0
      · have HJ : Hid (joinB (xs.take (k + 1)) = joinB (xs.take k) ++ numB x) := Lib.hid (by
          subst h0
          have e := joinB_first HS.out
          show joinB (xs.take 1) = _
          rw [e]
          simp [joinB_nil])
        have hki0 : ¬ (0 : Int) < (k : Int) := by omega
        generalize hJ : joinB (xs.take k) = J at *
        clear h0 hJ
        go_wp2_with fail
        refine (l01Number_any x _ hx0 hx1).mono ?_
        rintro e w1 ⟨rfl, b1⟩
        go_wp2_with fail
        go_roundw
        case rel => exact ⟨k + 1, by omega, by go_num, by rw [HJ.out] <;> rfl, by rw [HJ.out, ByteArray.size_append]; omega, Below.step b1 (by omega) hbel⟩
        case measure => simp [intOf] <;> omega
      · have HJ := Lib.hid (joinB_take HS.out h0)
        have hki0 : (0 : Int) < (k : Int) := by omega
        generalize hJ : joinB (xs.take k) = J at *
        go_wp2_with fail
        refine (l01Number_any x _ hx0 hx1).mono ?_
        rintro e w1 ⟨rfl, b1⟩
        go_wp2_with fail
        go_roundw
        case rel => exact ⟨k + 1, by omega, by go_num, by rw [HJ.out] <;> rfl, by rw [HJ.out, ByteArray.size_append, ByteArray.size_append]; omega, Below.step b1 (by omega) hbel⟩
        case measure => simp [intOf] <;> omega
    · have HT := Lib.hid (show xs.take k = xs from List.take_of_length_le (by omega))
      go_wp2_with fail
      go_ret
      exact ⟨by rw [HT.out] <;> rfl, hbel⟩
set_option maxRecDepth 100000 in
set_option maxHeartbeats 2000000 in
theorem l01Split_any (s : ByteArray) (w : World) (hs : s.size ≤ 1048576) :
    Calls Tryd.prog 21 #[.string s, .int .u8 47] w fun e w' => ∃ v : Value, e = .returned v ∧ OwnL encStr 1 9 w' w.heap.size v (piecesB s) ∧ Below w.heap.size w w' := by
  go_enter Tryd.func21, Tryd.ntmps21
  go_wp2_with fail
  go_loopw [5, 6, 7] (fun o f i wr => ∃ (k g : Nat) (ps : List ByteArray), k ≤ s.size + 1 ∧ g ≤ k ∧ i = .int .i64 k ∧ f = .int .i64 g ∧ ps.length ≤ k ∧ Hid (SplitAt s k g ps) ∧ OwnL encStr 1 9 wr w.heap.size o ps ∧ Below w.heap.size w wr) (fun _ _ i _ => s.size + 1 - (intOf i).toNat)
  case atStart => exact ⟨0, 0, [], Nat.zero_le _, Nat.le_refl _, rfl, rfl, Nat.le_refl _, SplitAt.start s, OwnL.emptyAt rfl (Nat.le_refl _), (Below.refl _ _).alloc (Nat.le_refl _) _⟩
  case round =>
    obtain ⟨k, g, ps, hk, hg, rfl, rfl, hp, HS, ho, hbel⟩ := hrel
    have z0 := hbel.size
    by_cases hle : k ≤ s.size
    · have hlei : (k : Int) ≤ (s.size : Int) := by omega
      have hgi : (g : Int) ≤ (k : Int) := by omega
      by_cases hlt : k < s.size
      · have hb := Lib.hid (byte_at s k hlt)
        have hne : ((k : Int) == (s.size : Int)) = false := by simp; omega
        cases hq : (((s[k].toNat : Nat) : Int) == 47) with
        | true =>
          have HC := Lib.hid (show s.data.toList[k]? = some 47 by
            rw [hb.out]
            have : s[k].toNat = 47 := by have := beq_iff_eq.1 hq; omega
            congr 1
            exact UInt8.toNat_inj.1 (by rw [this]; rfl))
          go_wp2_with (at_builtin; refine wpList_push (enc := encStr) _ _ (by first | rfl | simp) rfl (.tmp 26) (.tmp 31) 42 rfl w.heap.size 9 _ (.string ByteArray.empty) 1 16 Tryd.underlying42 (by kernel_rfl) rfl (by omega) _ ps (s.extract g k) _ rfl rfl (encStr_unit _) rfl rfl ho (by omega) (by omega) (by (first | omega | (simp; omega) | (simp; done))) ?_; intro v9 w9 hown9 hg9 hk9)
          go_roundw
          case rel => exact ⟨k + 1, k + 1, _, by omega, Nat.le_refl _, by go_num, by go_num, by simp; omega, HS.out.hit hlt HC.out, hown9, hk9 _ _ (Nat.le_refl _) hbel⟩
          case measure => simp [intOf] <;> omega
        | false =>
          have HC := Lib.hid (show s.data.toList[k]? ≠ some 47 by
            rw [hb.out]
            intro e
            injection e with e
            rw [e] at hq
            simp at hq)
          go_wp2_with fail
          go_roundw
          case rel => exact ⟨k + 1, g, ps, by omega, by omega, by go_num, rfl, by omega, HS.out.miss hlt HC.out, ho, hbel⟩
          case measure => simp [intOf] <;> omega
      · obtain rfl : k = s.size := by omega
        go_wp2_with (at_builtin; refine wpList_push (enc := encStr) _ _ (by first | rfl | simp) rfl (.tmp 26) (.tmp 31) 42 rfl w.heap.size 9 _ (.string ByteArray.empty) 1 16 Tryd.underlying42 (by kernel_rfl) rfl (by omega) _ ps (s.extract g s.size) _ rfl rfl (encStr_unit _) rfl rfl ho (by omega) (by omega) (by (first | omega | (simp; omega) | (simp; done))) ?_; intro v9 w9 hown9 hg9 hk9)
        go_roundw
        case rel => exact ⟨s.size + 1, s.size + 1, _, by omega, Nat.le_refl _, by go_num, by go_num, by simp; omega, HS.out.last rfl, hown9, hk9 _ _ (Nat.le_refl _) hbel⟩
        case measure => simp [intOf] <;> omega
    · have hlei : ¬ (k : Int) ≤ (s.size : Int) := by omega
      have HW := Lib.hid (HS.out.whole hle)
      go_wp2_with fail
      go_ret
      exact ⟨_, rfl, by rw [← HW.out]; exact ho, hbel⟩
theorem valueB_short {l : List UInt8} (h : ¬ (1 ≤ l.length ∧ l.length ≤ 13)) : valueB l = (0, false) := by rw [valueB, if_neg h]
theorem valueB_bad {l : List UInt8} (h : digOk l = false) : valueB l = (0, false) := by
  unfold valueB
  split
  · rw [if_neg (by rw [h]; simp)]
  · rfl
theorem valueB_good {l : List UInt8} (h1 : 1 ≤ l.length ∧ l.length ≤ 13) (h : digOk l = true) : valueB l = ((valOf l : Int), decide (Lib.decDigits (valOf l) = l)) := by
  rw [valueB, if_pos h1, if_pos h]
theorem digOk_at {l : List UInt8} {k : Nat} {c : UInt8} (h : l[k]? = some c) (hc : ¬ (48 ≤ c.toNat ∧ c.toNat ≤ 57)) : digOk l = false := by
  rw [Bool.eq_false_iff]
  intro hd
  have := List.all_eq_true.1 hd c (List.mem_of_getElem? h)
  simp at this
  exact hc this
theorem digOk_next {l : List UInt8} {k : Nat} {c : UInt8} (hd : digOk (l.take k) = true) (h : l[k]? = some c) (h0 : 48 ≤ c.toNat) (h1 : c.toNat ≤ 57) : digOk (l.take (k + 1)) = true ∧ valOf (l.take (k + 1)) = 10 * valOf (l.take k) + (c.toNat - 48) := by
  rw [List.take_add_one, h]
  show digOk (l.take k ++ [c]) = true ∧ valOf (l.take k ++ [c]) = _
  rw [digOk_app, hd, valOf_snoc]
  refine ⟨?_, rfl⟩
  simp [digOk, h0, h1]
theorem valOf_bound {l : List UInt8} {k : Nat} (hk : k ≤ 13) (hd : digOk (l.take k) = true) : valOf (l.take k) < 10000000000000 := by
  have h1 := valOf_lt _ hd
  have h2 : (l.take k).length ≤ 13 := by rw [List.length_take]; omega
  have hp : 10 ^ (l.take k).length ≤ 10 ^ 13 := Nat.pow_le_pow_right (by omega) h2
  have e : (10 : Nat) ^ 13 = 10000000000000 := by decide
  omega
set_option maxRecDepth 100000 in
set_option maxHeartbeats 2000000 in
theorem l01Value_any (s : ByteArray) (w : World) (hs : s.size ≤ 1048576) :
    Calls Tryd.prog 53 #[.string s] w fun e w' => e = .returned (.tuple #[.int .i64 (valueB s.data.toList).1, .bool (valueB s.data.toList).2]) ∧ Below w.heap.size w w' := by
  have hsd := size_data s
  by_cases h1 : s.size < 1
  · have HV := Lib.hid (valueB_short (l := s.data.toList) (by omega))
    have h1i : (s.size : Int) < 1 := by omega
    clear hsd
    go_enter Tryd.func53, Tryd.ntmps53
    go_wp2_with fail
    go_ret2
    exact ⟨by rw [HV.out] <;> rfl, Below.refl _ _⟩
  have h1i : ¬ (s.size : Int) < 1 := by omega
  by_cases h2 : 13 < s.size
  · have HV := Lib.hid (valueB_short (l := s.data.toList) (by omega))
    have h2i : (s.size : Int) > 13 := by omega
    clear hsd
    go_enter Tryd.func53, Tryd.ntmps53
    go_wp2_with fail
    go_ret2
    exact ⟨by rw [HV.out] <;> rfl, Below.refl _ _⟩
  have h2i : ¬ (s.size : Int) > 13 := by omega
  have HL := Lib.hid (show 1 ≤ s.data.toList.length ∧ s.data.toList.length ≤ 13 by omega)
  clear hsd
  go_enter Tryd.func53, Tryd.ntmps53
  go_wp2_with fail
  go_loopw [4, 5] (fun n i wr => ∃ k : Nat, k ≤ s.size ∧ i = .int .i64 k ∧ n = .int .i64 (valOf (s.data.toList.take k) : Nat) ∧ Hid (digOk (s.data.toList.take k) = true) ∧ wr = w) (fun _ i _ => s.size - (intOf i).toNat)
  case atStart => exact ⟨0, Nat.zero_le _, rfl, rfl, (rfl : digOk [] = true), rfl⟩
  case round =>
    obtain ⟨k, hk, rfl, rfl, HD, rfl⟩ := hrel
    have hv := valOf_bound (by omega) HD.out
    by_cases hlt : k < s.size
    · have hki : (k : Int) < (s.size : Int) := by omega
      have HS := Lib.hid (byte_at s k hlt)
      by_cases hc : 48 ≤ s[k].toNat ∧ s[k].toNat ≤ 57
      · obtain ⟨hc0, hc1⟩ := hc
        obtain ⟨n1, n2⟩ := digOk_next HD.out HS.out hc0 hc1
        have N1 := Lib.hid n1
        have N2 := Lib.hid n2
        clear n1 n2
        have e1 : IntKind.u8.wrap (((s[k].toNat : Nat) : Int) - 48) = ((s[k].toNat : Nat) : Int) - 48 := by simp [IntKind.wrap, IntKind.bits, IntKind.signed]; omega
        go_wp2_with fail
        go_roundw
        case rel => exact ⟨k + 1, by omega, by go_num, by rw [N2.out]; go_num, N1.out, by first | rfl | trivial⟩
        case measure => simp [intOf] <;> omega
      · have HV := Lib.hid (valueB_bad (digOk_at HS.out hc))
        by_cases hc0 : s[k].toNat < 48
        · go_wp2_with fail
          go_ret2
          exact ⟨by rw [HV.out] <;> rfl, Below.refl _ _⟩
        · have hc1 : 57 < s[k].toNat := by omega
          go_wp2_with fail
          go_ret2
          exact ⟨by rw [HV.out] <;> rfl, Below.refl _ _⟩
    · have hki : ¬ (k : Int) < (s.size : Int) := by omega
      have e0 : s.data.toList.take k = s.data.toList := List.take_of_length_le (by rw [size_data]; omega)
      have hd := HD.out
      rw [e0] at hd hv ⊢
      have HV := Lib.hid (valueB_good HL.out hd)
      clear e0 hd HD
      go_wp2_with fail
      refine (l01Dec_any _ _ (by omega) (by omega)).mono ?_
      rintro e w1 ⟨rfl, b1⟩
      rw [Int.toNat_natCast]
      go_wp2_with fail
      go_ret2
      exact ⟨by rw [HV.out, ← natB_eq] <;> rfl, b1⟩
end Go.Proofs.YtmfidoahdkipmaaDoor
