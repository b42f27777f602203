/- Marks: strings, hearings. -/
import Derived.Test.YtdcfenkkgnnbbaaHearingH
import Derived.Test.YtdcfenkkgnnbbaaMark
namespace Go.Proofs.Ytdcfenkkgnnbbaa
open Go.RowKit
set_option linter.unusedVariables false

def marksS (m : Int) (n : Nat) : List ByteArray := (List.range n).map fun (i : Nat) => markT (m + (i : Int))
theorem marksS_len (m : Int) (n : Nat) : (marksS m n).length = n := by simp [marksS]
theorem marksS_at {m : Int} {n i : Nat} (h : i < n) : (marksS m n)[i]? = some (markT (m + (i : Int))) := by simp [marksS, h]
set_option maxRecDepth 100000 in
set_option maxHeartbeats 2000000 in
theorem markStringS_wr (v : Value) (n : Nat) (lo hi : Nat) (m : Int) (w : World) (h : WrF 9 1 w lo hi v n) (hh : hi ≤ w.heap.size) (hm : n ≤ 1099511627) (h0 : 0 ≤ m) (h1 : m ≤ 1099511627) :
    Calls Try.prog 30 #[v, .int .i64 m] w fun e w' => e = .returned (.int .i64 (m + n)) ∧ (RdW encStr 1 9 w' lo hi v (marksS m n) ∧ Mrk 9 lo hi w w') := by
  obtain ⟨A, c, rfl, hc, hA⟩ := h
  by_cases hz : n = 0
  · have hlt : ¬ ((0 : Int) < (n : Int)) := by omega
    go_enter Try.func30, Try.ntmps30
    go_wp2
    refine wp_loop_rounds 1 ?_
    rw [rounds_succ]
    go_wp2_with fail
    go_ret
    refine ⟨ret_int (by omega), ⟨A, c, by rw [marksS_len], by rw [marksS_len]; exact hc, fun hl => ?_⟩, Mrk.refl _ _ _ _⟩
    rw [marksS_len] at hl
    omega
  · obtain ⟨g, arr, rfl, hg1, hg2, hblk, hsz⟩ := hA (by omega)
    clear hA
    go_enter Try.func30, Try.ntmps30
    go_wp2
    go_loopw [1, 5] (fun q i wr => ∃ k : Nat, k ≤ n ∧ i = .int .i64 k ∧ q = .int .i64 (m + (k : Int)) ∧ ∃ ar : Array Value, Hid (n * 1 ≤ ar.size) ∧ Hid (RowTo encStr 1 ar (marksS m n) k) ∧ Blk wr g 9 ar ∧ Mrk 9 lo hi w wr) (fun _ i _ => n - (intOf i).toNat)
    case atStart => exact ⟨0, Nat.zero_le _, rfl, by simp, arr, hsz, RowTo.zero, hblk, Mrk.refl _ _ _ _⟩
    case round =>
      obtain ⟨k, hk, rfl, rfl, ar, hsz', HR, hb, hcg⟩ := hrel
      have z0 := hcg.chg.size
      have zg := hb.lt
      by_cases hlt : k < n
      · have hsA : k < ar.size := by have := hsz'.out; omega
        go_wp2_with fail
        refine (markText_any (m + (k : Int)) _ (by omega)).mono ?_
        rintro e w1 ⟨rfl, b1⟩
        have z1 := b1.size
        have hk1 := hb.below b1 (by omega)
        have hm1 : Mrk 9 lo hi w w1 := hcg.trans (Mrk.of_below b1)
        clear b1
        obtain ⟨u0, f0⟩ := hk1.some_ k hsA
        have g0 := hk1.frozen k
        have hS := hk1.set1 (k * 1) (.string (markT (m + (k : Int))))
        have hM := hm1.trans (Mrk.set hk1 hg1 hg2 k (.string (markT (m + (k : Int)))))
        have HS := Lib.hid hS
        have HM := Lib.hid hM
        clear hS hM hk1 hm1 hcg hb
        go_wp2_with fail
        go_roundw
        case rel =>
          refine ⟨k + 1, by omega, by go_num, by go_num, setL ar (k * 1) (encStr (markT (m + (k : Int)))), ?_, ?_, ?_, HM.out⟩
          · show _ ≤ _
            rw [setL_size]; exact hsz'.out
          · exact HR.out.step' (marksS_at hlt) (fun _ => rfl) (by omega)
          · have := HS.out
            simpa [encStr] using this
        case measure => simp [intOf]; omega
      · have e : k = n := by omega
        have HR' : Hid (RowTo encStr 1 ar (marksS m n) n) := by have h := HR.out; rw [e] at h; exact h
        have HK := Lib.hid e; clear e
        go_wp2_with fail
        go_ret
        exact ⟨ret_int (by rw [HK.out]), ⟨some ⟨g, 0, none⟩, c, by rw [marksS_len], by rw [marksS_len]; exact hc, fun _ => ⟨g, ar, rfl, hg1, hg2, hb, by rw [marksS_len]; exact hsz'.out, by rw [marksS_len]; exact HR'.out⟩⟩, hcg⟩
theorem markStringS_any (v : Value) (xs : List ByteArray) (lo hi : Nat) (m : Int) (w : World) (h : RdW encStr 1 9 w lo hi v xs) (hh : hi ≤ w.heap.size) (hm : xs.length ≤ 1099511627) (h0 : 0 ≤ m) (h1 : m ≤ 1099511627) :
    Calls Try.prog 30 #[v, .int .i64 m] w fun e w' => e = .returned (.int .i64 (m + xs.length)) ∧ (RdW encStr 1 9 w' lo hi v (marksS m xs.length) ∧ Chg lo hi w w') :=
  (markStringS_wr v xs.length lo hi m w h.wr hh hm h0 h1).mono fun _ _ ⟨a, b, c⟩ => ⟨a, b, c.chg⟩
set_option maxRecDepth 100000 in
set_option maxHeartbeats 2000000 in
theorem heldStringS_any (v : Value) (n : Nat) (lo hi : Nat) (m : Int) (w : World) (h : RdF encStr 1 w lo hi v (marksS m n)) (hh : hi ≤ w.heap.size) (hm : n ≤ 1099511627) (h0 : 0 ≤ m) (h1 : m ≤ 1099511627) :
    Calls Try.prog 31 #[v, .int .i64 m] w fun e w' => e = .returned (.int .i64 (m + n)) ∧ Below w.heap.size w w' := by
  obtain ⟨A, c, rfl, hc, hA⟩ := h
  rw [marksS_len] at hc hA ⊢
  go_enter Try.func31, Try.ntmps31
  go_wp2
  go_loopw [1, 5] (fun q i wr => ∃ k : Nat, k ≤ n ∧ i = .int .i64 k ∧ q = .int .i64 (m + (k : Int)) ∧ Below w.heap.size w wr) (fun _ i _ => n - (intOf i).toNat)
  case atStart => exact ⟨0, Nat.zero_le _, rfl, by simp, Below.refl _ _⟩
  case round =>
    obtain ⟨k, hk, rfl, rfl, hb⟩ := hrel
    have z0 := hb.size
    by_cases hlt : k < n
    · obtain ⟨b, off, rfl, -, hbw, hcell⟩ := hA (by omega)
      have a0 : w.cell? ⟨b, off + k, none⟩ = some (.string (markT (m + (k : Int)))) := by simpa using hcell k _ (marksS_at hlt) 0 _ rfl
      clear hcell hA
      have c0_0 := (hb.cell (p := ⟨b, off + k, none⟩) (by omega : b < _)).trans a0
      go_wp2_with fail
      have zz0 : b < wr.heap.size := by omega
      have d0 : ∀ n : Cls wr.heap.size wr, _ := Cls.cell (p := ⟨b, off + k, none⟩) zz0 c0_0
      refine wp_region_cls wr.heap.size wr (by kernel_rfl) (by kernel_rfl) (Below.refl _ _) ?_
      repeat (go_big_quiet_step ((first | (go_at_call 84; refine Calls.cls (Nat.le_refl _) (markText_any (m + (k : Int)) _ (by omega))))))
      refine wpQuiet_nil ?_
      rintro _ ⟨⟨w1, b1⟩, rfl⟩
      clear d0 c0_0
      have z1 := b1.size
      go_wp2_with fail
      go_roundw
      case rel => exact ⟨k + 1, by omega, by go_num, by go_num, by (repeat (first | with_reducible assumption | with_reducible exact Below.refl _ _ | with_reducible refine Below.setCell ?_ ?_ _ | with_reducible refine Below.alloc ?_ ?_ _ | with_reducible refine Below.drew ?_ | with_reducible refine below_drewN ?_ _ | with_reducible refine Below.step (by with_reducible assumption) ?_ ?_ | omega | (simp <;> omega) | (simp; done)))⟩
      case measure => simp [intOf]; omega
    · have e : k = n := by omega
      have HK := Lib.hid e; clear e
      go_wp2_with fail
      go_ret
      exact ⟨ret_int (by rw [HK.out]), hb⟩
set_option maxRecDepth 100000 in
set_option maxHeartbeats 2000000 in
theorem markHearing_any (s : Hearing) (p0 : Value) (lo hi : Nat) (m : Int) (w : World) (h : RdW encStr 1 9 w lo hi p0 s.people) (hh : hi ≤ w.heap.size) (hs : s.small) (h0 : 0 ≤ m) (h1 : m ≤ 1099511627) :
    Calls Try.prog 29 #[.agg #[.string s.code, .int .i64 s.len, p0, .int .i64 s.last], .int .i64 m] w fun e w' => e = .returned (.int .i64 (m + s.people.length)) ∧ Chg lo hi w w' := by
  have hl := hs.len0
  have kX := Blk.newAt (w := w) (n := w.heap.size) (t := 30) (cs := #[.string s.code, .int .i64 s.len, p0, .int .i64 s.last]) rfl
  have hbkX : Below w.heap.size w (w.alloc (.cells #[.string s.code, .int .i64 s.len, p0, .int .i64 s.last] 30)) := (Below.refl _ _).alloc (Nat.le_refl _) _
  have hzkX : (w.alloc (.cells #[.string s.code, .int .i64 s.len, p0, .int .i64 s.last] 30)).heap.size = w.heap.size + 1 := by simp
  replace h := h.below hbkX hh
  go_enter Try.func29, Try.ntmps29
  go_wp2_with fail
  generalize (w.alloc (.cells #[.string s.code, .int .i64 s.len, p0, .int .i64 s.last] 30)) = W0 at *
  refine (markStringS_any p0 s.people lo hi m _ h (by omega) (by omega) h0 h1).mono ?_
  rintro e w1 ⟨rfl, -, hc⟩
  go_wp2_with fail
  go_ret
  exact ⟨rfl, (Chg.of_below hbkX).trans hc⟩
def RdWHearing.R (w : World) (g : Nat) (lo hi : Nat) (ar : Array Value) (rs : List HearingR) : Prop :=
  rs.length * 4 ≤ ar.size ∧ (∀ i r, rs[i]? = some r → ar[i * 4 + 2]? = some r.p0) ∧ Blk w g 30 ar ∧ ∀ r ∈ rs, WrF 9 1 w lo hi r.p0 r.h.people.length
set_option maxRecDepth 100000 in
set_option maxHeartbeats 4000000 in
theorem markHearingS_any (v : Value) (xs : List Hearing) (lo hi : Nat) (m : Int) (w : World) (h : RdWHearing w lo hi v xs) (hh : hi ≤ w.heap.size) (hm : xs.length ≤ 1048576) (hw : Hearing.wts xs ≤ 1048576) (h0 : 0 ≤ m) (h1 : m ≤ 109951162) :
    Calls Try.prog 40 #[v, .int .i64 m] w fun e w' => e = .returned (.int .i64 (m + (xs.length : Int) * 3 + (Hearing.wts xs : Int))) ∧ Chg lo hi w w' := by
  obtain ⟨rs, rfl, hR, hP⟩ := h
  rw [List.length_map] at hm
  obtain ⟨A, c, rfl, hc, hA⟩ := hR
  have HW := Lib.hid hw; clear hw
  by_cases hz : rs.length = 0
  · have hlt : ¬ ((0 : Int) < (rs.length : Int)) := by omega
    have hrs : rs = [] := List.eq_nil_of_length_eq_zero hz
    go_enter Try.func40, Try.ntmps40
    go_wp2
    refine wp_loop_rounds 1 ?_
    rw [rounds_succ]
    go_wp2_with fail
    go_ret
    exact ⟨ret_int (by rw [hrs]; simp [Hearing.wts]), Chg.refl _ _ _⟩
  · obtain ⟨g, arr, rfl, hg1, hg2, hblk, hsz, hrow⟩ := hA (by omega)
    have hstart : Hid (RdWHearing.R w g lo hi arr rs) := ⟨hsz, fun i r hr => hrow i r (List.getElem?_eq_some_iff.1 hr).1 hr 2 _ rfl, hblk, fun r hr => (hP r hr).wr⟩
    have hlts : ∀ k, k ≤ rs.length → Hearing.wts ((rs.map HearingR.h).take k) ≤ Hearing.wts (rs.map HearingR.h) := fun k hk => by
      have e := List.take_append_drop k (rs.map HearingR.h)
      have : Hearing.wts (rs.map HearingR.h) = Hearing.wts ((rs.map HearingR.h).take k) + Hearing.wts ((rs.map HearingR.h).drop k) := by
        conv => lhs; rw [← e]
        unfold Hearing.wts
        rw [List.map_append, List.sum_append]
      omega
    have HL := Lib.hid hlts
    clear hrow hA hP hblk hsz hlts
    go_enter Try.func40, Try.ntmps40
    go_wp2
    go_loopw [1, 5] (fun q i wr => ∃ k : Nat, k ≤ rs.length ∧ i = .int .i64 k ∧ q = .int .i64 (m + (k : Int) * 3 + (Hearing.wts ((rs.map HearingR.h).take k) : Int)) ∧ ∃ ar : Array Value, Hid (RdWHearing.R wr g lo hi ar rs) ∧ Chg lo hi w wr) (fun _ i _ => rs.length - (intOf i).toNat)
    case atStart => exact ⟨0, Nat.zero_le _, rfl, by simp [Hearing.wts], arr, hstart, Chg.refl _ _ _⟩
    case round =>
      obtain ⟨k, hk, rfl, rfl, ar, HR, hcg⟩ := hrel
      have z0 := hcg.size
      have hwk : Hearing.wts ((rs.map HearingR.h).take k) ≤ 1048576 := Nat.le_trans (HL.out k hk) HW.out
      have HN := Lib.hid (show ∀ x : Hearing, (rs.map HearingR.h)[k]? = some x → Hearing.wts ((rs.map HearingR.h).take (k + 1)) = Hearing.wts ((rs.map HearingR.h).take k) + x.wt from fun x hx => Hearing.wts_succ hx)
      have HL1 := Lib.hid (show k + 1 ≤ rs.length → Hearing.wts ((rs.map HearingR.h).take (k + 1)) ≤ 1048576 from fun h => Nat.le_trans (HL.out _ h) HW.out)
      generalize hmw : Hearing.wts ((rs.map HearingR.h).take k) = mw at *
      by_cases hlt : k < rs.length
      · obtain ⟨r, hr⟩ : ∃ r, rs[k]? = some r := ⟨_, List.getElem?_eq_getElem hlt⟩
        have hrm := List.mem_of_getElem? hr
        have hN := HN.out r.h (map_at rfl hr)
        have hN1 := HL1.out (by omega)
        rw [hN] at hN1
        have hwr : r.h.wt = r.h.people.length := rfl
        have hlen : r.h.people.length ≤ 1048576 := by omega
        have HN2 := Lib.hid (hN.trans (by rw [hwr]))
        obtain ⟨hsz, hrow, hb, hP⟩ := HR.out
        have hsA : k * 4 + 4 ≤ ar.size := by omega
        have zg := hb.lt
        obtain ⟨PA, PC, hpe, hpc⟩ : ∃ A c, r.p0 = .slice A r.h.people.length c ∧ r.h.people.length ≤ c := by
          obtain ⟨A, c, h1, h2, _⟩ := hP r hrm
          exact ⟨A, c, h1, h2⟩
        have c2 : ar[k * 4 + 2]? = some (.slice PA r.h.people.length PC) := by rw [hrow k r hr, hpe]
        clear hN hN1 hwr
        have HP := Lib.hid hP; have HRo := Lib.hid hrow
        clear hP hrow HR
        have hki : (k : Int) < (rs.length : Int) := by omega
        go_wp2_with fail
        refine (markText_any (m + (k : Int) * 3 + (mw : Int)) _ (by omega)).mono ?_
        rintro e w1 ⟨rfl, b1⟩
        have z1 := b1.size
        have hk1 := hb.below b1 (by omega)
        have hc1 := hcg.trans (Chg.of_below b1)
        have HP1 := Lib.hid (show ∀ r ∈ rs, WrF 9 1 w1 lo hi r.p0 r.h.people.length from fun r hr => (HP.out r hr).below b1 (by omega))
        clear b1 HP hb hcg
        obtain ⟨u0, f0⟩ := hk1.some_ (k * 4) (by omega)
        obtain ⟨u1, f1⟩ := hk1.some_ (k * 4 + 1) (by omega)
        have f2 : w1.cell? ⟨g, k * 4 + 2, none⟩ = some (.slice PA r.h.people.length PC) := (hk1.cell _).trans c2
        have g0 := hk1.frozen (k * 4)
        have g1 := hk1.frozen (k * 4 + 1)
        -- the world behind the first two stores
        have hk2 := (hk1.set_ (k * 4) (.string (markT (m + (k : Int) * 3 + (mw : Int))))).set_ (k * 4 + 1) (.int .i64 (m + (k : Int) * 3 + (mw : Int) + 1))
        have hc2 := (hc1.setCell (p := ⟨g, k * 4, none⟩) hg1 hg2 (.string (markT (m + (k : Int) * 3 + (mw : Int))))).setCell (p := ⟨g, k * 4 + 1, none⟩) hg1 hg2 (.int .i64 (m + (k : Int) * 3 + (mw : Int) + 1))
        have hx2 : ∀ g' t' ar', Blk w1 g' t' ar' → t' ≠ 30 → Blk ((w1.setCell ⟨g, k * 4, none⟩ (.string (markT (m + (k : Int) * 3 + (mw : Int))))).setCell ⟨g, k * 4 + 1, none⟩ (.int .i64 (m + (k : Int) * 3 + (mw : Int) + 1))) g' t' ar' := fun g' t' ar' hb' ht => (hb'.far (hb'.ne hk1 ht) _).far (hb'.ne hk1 ht) _
        have HP2 := Lib.hid (show ∀ r ∈ rs, WrF 9 1 ((w1.setCell ⟨g, k * 4, none⟩ (.string (markT (m + (k : Int) * 3 + (mw : Int))))).setCell ⟨g, k * 4 + 1, none⟩ (.int .i64 (m + (k : Int) * 3 + (mw : Int) + 1))) lo hi r.p0 r.h.people.length from fun r hr => by
          obtain ⟨A, c, h1, h2, h3⟩ := HP1.out r hr
          refine ⟨A, c, h1, h2, fun hp => ?_⟩
          obtain ⟨g', ar', h4, h5, h6, h7, h8⟩ := h3 hp
          exact ⟨g', ar', h4, h5, h6, hx2 g' _ ar' h7 (by decide), h8⟩)
        have HK2 := Lib.hid hk2
        have HC2 := Lib.hid hc2
        have hz2 : ((w1.setCell ⟨g, k * 4, none⟩ (.string (markT (m + (k : Int) * 3 + (mw : Int))))).setCell ⟨g, k * 4 + 1, none⟩ (.int .i64 (m + (k : Int) * 3 + (mw : Int) + 1))).heap.size = w1.heap.size := by simp
        clear hk2 hc2 hx2 hc1 HP1
        go_wp2_with fail
        clear f0 f1 f2 g0 g1 hk1
        generalize ((w1.setCell ⟨g, k * 4, none⟩ (.string (markT (m + (k : Int) * 3 + (mw : Int))))).setCell ⟨g, k * 4 + 1, none⟩ (.int .i64 (m + (k : Int) * 3 + (mw : Int) + 1))) = W2 at *
        have hwp := HP2.out r hrm
        rw [hpe] at hwp
        refine (markStringS_wr _ r.h.people.length lo hi (m + (k : Int) * 3 + (mw : Int) + 1 + 1) _ hwp (by omega) (by omega) (by omega) (by omega)).mono ?_
        rintro e w3 ⟨rfl, -, hmk⟩
        have hc3 := HC2.out.trans hmk.chg
        obtain ⟨ar3, hk3, hs3, he3⟩ := hmk.form g _ _ HK2.out
        have e3 := he3 (by decide)
        subst e3
        have HP3 := Lib.hid (show ∀ r ∈ rs, WrF 9 1 w3 lo hi r.p0 r.h.people.length from fun r hr => (HP2.out r hr).mrk hmk)
        have z3 := hmk.chg.size
        clear hmk he3 hwp HP2 HK2 HC2
        obtain ⟨u3, f3⟩ := hk3.some_ (k * 4 + 3) (by simp; omega)
        have g3 := hk3.frozen (k * 4 + 3)
        have hk4 := Lib.hid (hk3.set_ (k * 4 + 3) (.int .i64 (m + (k : Int) * 3 + (mw : Int) + 1 + 1 + (r.h.people.length : Int))))
        have hc4 := Lib.hid (hc3.setCell (p := ⟨g, k * 4 + 3, none⟩) hg1 hg2 (.int .i64 (m + (k : Int) * 3 + (mw : Int) + 1 + 1 + (r.h.people.length : Int))))
        have HP4 := Lib.hid (show ∀ r' ∈ rs, WrF 9 1 (w3.setCell ⟨g, k * 4 + 3, none⟩ (.int .i64 (m + (k : Int) * 3 + (mw : Int) + 1 + 1 + (r.h.people.length : Int)))) lo hi r'.p0 r'.h.people.length from fun r' hr => by
          obtain ⟨A, c, h1, h2, h3⟩ := HP3.out r' hr
          refine ⟨A, c, h1, h2, fun hp => ?_⟩
          obtain ⟨g', ar', h4, h5, h6, h7, h8⟩ := h3 hp
          exact ⟨g', ar', h4, h5, h6, h7.far (h7.ne hk3 (by decide)) _, h8⟩)
        clear hk3 hc3 HP3
        go_wp2_with fail
        go_roundw
        case rel =>
          refine ⟨k + 1, by omega, by go_num, congrArg (Value.int .i64) (by rw [HN2.out]; simp; omega), _, ⟨?_, ?_, hk4.out, HP4.out⟩, hc4.out⟩
          · simp; omega
          · intro i r' hr'
            have h7 := HRo.out i r' hr'
            have hil : i < rs.length := (List.getElem?_eq_some_iff.1 hr').1
            rw [Array.getElem?_setIfInBounds_ne (by omega), Array.getElem?_setIfInBounds_ne (by omega), Array.getElem?_setIfInBounds_ne (by omega)]
            exact h7
        case measure => simp [intOf]; omega
      · have e : k = rs.length := by omega
        have HK := Lib.hid (show mw = Hearing.wts (rs.map HearingR.h) by rw [← hmw, e, ← List.length_map (f := HearingR.h), List.take_length])
        have HE := Lib.hid e; clear e hmw
        go_wp2_with fail
        go_ret
        exact ⟨ret_int (by rw [← HK.out, List.length_map, HE.out]), hcg⟩
end Go.Proofs.Ytdcfenkkgnnbbaa
