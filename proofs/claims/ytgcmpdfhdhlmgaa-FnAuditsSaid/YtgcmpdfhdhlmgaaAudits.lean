/- A normal number is neither low nor high, and the likeliest one is at least as likely as any other: returns true for all arguments. No conditions. -/
import Derived.Test.YtgcmpdfhdhlmgaaAuditY
import Derived.Test.YtgcmpdfhdhlmgaaDrawAu
import Derived.Test.YtgcmpdfhdhlmgaaDice
import Derived.Test.YtgcmpdfhdhlmgaaOpenB
namespace Go.Proofs.Ytgcmpdfhdhlmgaa.audits
open Go.ChangeShapes Go.WideShapes Go.ChangeAt Go.RowKit
open Go.ChangeMaps (open_string shut_string)
set_option linter.unusedVariables false

theorem own : ownKnob Try.prog.godebug = none := by kernel_rfl
theorem laidOut : laidOutB Try.prog = true := by kernel_rfl

def lowCode (n g k x l : Int) : Int := if (drawOk n g k && inR x 0 40) && inR l 0 1000 then 0 else 2
theorem low_code (n g k x lo hi l : Int) : (lowIf n g k x lo hi l).2 = lowCode n g k x l := by
  unfold lowIf lowCode
  split <;> rfl
theorem normal_facts {n g k l : Int} (h : (normalRange n g k l).2.2 = 0) : lowIf n g k (normalRange n g k l).1 0 (normalRange n g k l).1 l = (false, 0) ∧ lowIf n g k (normalRange n g k l).2.1 (normalRange n g k l).2.1 40 l = (false, 0) ∧ (normalRange n g k l).1 ≤ (normalRange n g k l).2.1 := by
  cases hd : (drawOk n g k && inR l 0 1000) with
  | false => rw [normalRange, hd] at h; simp at h
  | true =>
    have hd2 := hd
    rw [Bool.and_eq_true] at hd2
    obtain ⟨⟨n1, n2⟩, -, -⟩ := drawOk_iff.1 hd2.1
    have F := normTo_facts (fun x => badZ n g k l x) (n + 1).toNat
    have e : normalRange n g k l = (if (normTo (fun x => badZ n g k l x) (n + 1).toNat).1 < 0 then (0, 0, 4) else ((normTo (fun x => badZ n g k l x) (n + 1).toNat).1, (normTo (fun x => badZ n g k l x) (n + 1).toNat).2, 0)) := by
      rw [normalRange, hd]; rfl
    rw [e] at h ⊢
    generalize normTo (fun x => badZ n g k l x) (n + 1).toNat = s at *
    rcases F with ⟨h1, -, -⟩ | ⟨h1, h2, h3, h4, h5⟩
    · rw [if_pos h1] at h; simp at h
    · rw [if_neg (by omega)] at h ⊢
      simp only
      rw [Int.toNat_of_nonneg h1] at h4
      rw [Int.toNat_of_nonneg (by omega)] at h5
      simp only [badZ, Bool.or_eq_false_iff] at h4 h5
      have i1 : inR s.1 0 40 = true := inR_true h1 (by omega)
      have i2 : inR s.2 0 40 = true := inR_true (by omega) (by omega)
      refine ⟨by rw [lowIf, hd2.1, i1, hd2.2, h4.1]; rfl, by rw [lowIf, hd2.1, i2, hd2.2, h5.2]; rfl, h2⟩
theorem exact_facts {n g k x : Int} (hd : drawOk n g k = true) (h0 : 0 ≤ x) (h1 : x ≤ 40) : ∃ a b A G W1 : Int, chanceIf n g k x x x = (a, b, 0) ∧ 1 ≤ b ∧ 0 ≤ a ∧ A / b = G ∧ a * G = W1 ∧ (W1 = waysZ n g k x x ∧ 0 ≤ W1 ∧ W1 ≤ 45079976738816) ∧ (waysIf n k = (A, 0) ∧ 1 ≤ A ∧ A ≤ 1099511627776) := by
  obtain ⟨⟨n1, n2⟩, ⟨g1, g2⟩, k1, k2⟩ := drawOk_iff.1 hd
  have hC := chooseZ_pos k1 k2
  have hC2 := chooseZ_bd k n2
  have w1 := waysZ_bd (n := n) (g := g) k (lo := x) (hi := x) g1 g2 n2 h0 h1
  obtain ⟨a1, a2, a3, a4, a5, a6, a7, a8, a9⟩ := lowest_back w1.1 hC
  refine ⟨(lowestZ (waysZ n g k x x) (chooseZ n k)).1, (lowestZ (waysZ n g k x x) (chooseZ n k)).2, chooseZ n k, gcdZ (waysZ n g k x x) (chooseZ n k), waysZ n g k x x, ?_, a1, a2, a6, a7, ⟨rfl, w1.1, w1.2⟩, ?_, hC, hC2⟩
  · rw [chanceIf, hd, inR_true h0 h1]; rfl
  · unfold waysIf
    rw [inR_true (by omega) (by omega), inR_true k1 (by omega)]
    rfl

set_option maxRecDepth 100000 in
set_option maxHeartbeats 40000000 in
theorem walk (v0 : Value) (code : List Int) (w : World) (hx0 : RdF encByte 1 w 0 w.heap.size v0 code) (hl0 : code.length ≤ maxLen) (hq0 : ∀ x ∈ code, 0 ≤ x ∧ x ≤ 255) :
    Calls Try.prog 10 #[v0] w fun e w' => e = .returned (.bool true) ∧ Below w.heap.size w w' := by
  try unfold maxLen at *
  obtain ⟨A0, C0, rfl, hc0⟩ := hx0.form
  by_cases hbig : (4096 : Int) < (code.length : Int)
  · go_enter Try.func10, Try.ntmps10
    go_wp2_with fail
    refine (big_any A0 C0 code.length _).mono ?_
    rintro e w1 ⟨rfl, b1⟩
    rw [decide_eq_true hbig]
    go_wp2_with fail
    go_ret
    exact ⟨rfl, b1⟩
  go_enter Try.func10, Try.ntmps10
  have BB : Below w.heap.size w w := Below.refl _ _
  go_wp2_with fail
  refine (big_any A0 C0 code.length _).mono ?_
  rintro e w1 ⟨rfl, b1⟩
  have zb1 := b1.size
  replace hx0 := hx0.below b1 (by omega)
  replace BB := Below.step b1 (by omega) BB
  clear b1
  rw [decide_eq_false (show ¬ (4096 : Int) < (code.length : Int) by omega)]
  go_wp2_with fail
  refine (drawNormal_any _ code _ _ _ hx0 (by omega) (by omega) hq0).mono ?_
  rintro e w2 ⟨n, g, k, l, rfl, hn, hg, hk, hl, b2⟩
  have zb2 := b2.size
  replace hx0 := hx0.below b2 (by omega)
  replace BB := Below.step b2 (by omega) BB
  clear b2
  go_wp2_with fail
  refine (normalRange_any n g k l _).mono ?_
  rintro e w3 ⟨rfl, b3⟩
  have zb3 := b3.size
  replace hx0 := hx0.below b3 (by omega)
  replace BB := Below.step b3 (by omega) BB
  clear b3
  go_wp2_with fail
  refine (sNormalRange_any n g k l _).mono ?_
  rintro e w4 ⟨rfl, b4⟩
  have zb4 := b4.size
  replace hx0 := hx0.below b4 (by omega)
  replace BB := Below.step b4 (by omega) BB
  clear b4
  go_wp2_with fail
  refine (drawIsLow_any _ code _ _ _ hx0 (by omega) (by omega) hq0).mono ?_
  rintro e w5 ⟨c, d, e', x, y, rfl, hc, hd, he, hx, hy, b5⟩
  have zb5 := b5.size
  replace hx0 := hx0.below b5 (by omega)
  replace BB := Below.step b5 (by omega) BB
  clear b5
  go_wp2_with fail
  refine (isLow_any c d e' x y _).mono ?_
  rintro e w6 ⟨rfl, b6⟩
  have zb6 := b6.size
  replace hx0 := hx0.below b6 (by omega)
  replace BB := Below.step b6 (by omega) BB
  clear b6
  go_wp2_with fail
  refine (sIsLow_any c d e' x y _).mono ?_
  rintro e w7 ⟨rfl, b7⟩
  have zb7 := b7.size
  replace hx0 := hx0.below b7 (by omega)
  replace BB := Below.step b7 (by omega) BB
  clear b7
  go_wp2_with fail
  refine (isHigh_any c d e' x y _).mono ?_
  rintro e w8 ⟨rfl, b8⟩
  have zb8 := b8.size
  replace hx0 := hx0.below b8 (by omega)
  replace BB := Below.step b8 (by omega) BB
  clear b8
  go_wp2_with fail
  refine (sIsHigh_any c d e' x y _).mono ?_
  rintro e w9 ⟨rfl, b9⟩
  have zb9 := b9.size
  replace hx0 := hx0.below b9 (by omega)
  replace BB := Below.step b9 (by omega) BB
  clear b9
  go_wp2_with fail
  refine (drawLikeliest_any _ code _ _ _ hx0 (by omega) (by omega) hq0).mono ?_
  rintro e w10 ⟨p, q, r, rfl, hp, hq, hr, b10⟩
  have zb10 := b10.size
  replace hx0 := hx0.below b10 (by omega)
  replace BB := Below.step b10 (by omega) BB
  clear b10
  go_wp2_with fail
  refine (likeliest_any p q r _).mono ?_
  rintro e w11 ⟨rfl, b11⟩
  have zb11 := b11.size
  replace hx0 := hx0.below b11 (by omega)
  replace BB := Below.step b11 (by omega) BB
  clear b11
  go_wp2_with fail
  refine (sLikeliest_any p q r _).mono ?_
  rintro e w12 ⟨rfl, b12⟩
  have zb12 := b12.size
  replace hx0 := hx0.below b12 (by omega)
  replace BB := Below.step b12 (by omega) BB
  clear b12
  rw [low_code c d e' x 0 x y, low_code c d e' x x 40 y]
  generalize (lowIf c d e' x 0 x y).1 = b1 at *
  generalize (lowIf c d e' x x 40 y).1 = b2 at *
  generalize lowCode c d e' x y = cc at *
  clear hc hd he hx hy hn hg hk hl hp hq hr
  by_cases hz5 : ¬ drawOk p q r = true
  · have h50 : likeliest p q r = (0, 2) := by unfold likeliest; rw [if_neg hz5]
    rw [h50]
    clear h50 hz5
    clear hx0
    by_cases hz : ¬ (normalRange n g k l).2.2 = 0
    · generalize (normalRange n g k l).1 = n1 at *
      generalize (normalRange n g k l).2.1 = n2 at *
      generalize (normalRange n g k l).2.2 = n3 at *
      have hz' : (n3 != 0) = true := by simpa using hz
      go_wp2_with fail
      go_ret
      exact ⟨rfl, by (repeat (first | with_reducible assumption | with_reducible exact Below.refl _ _ | with_reducible refine Below.setCell ?_ ?_ _ | with_reducible refine Below.alloc ?_ ?_ _ | with_reducible refine Below.drew ?_ | with_reducible refine below_drewN ?_ _ | with_reducible refine Below.step (by with_reducible assumption) ?_ ?_ | omega | (simp <;> omega) | (simp; done)))⟩
    · have hz1 : (normalRange n g k l).2.2 = 0 := by simpa using hz
      obtain ⟨m1, m2, m3⟩ := normal_facts hz1
      have hle := decide_eq_true m3
      rw [hz1]
      generalize (normalRange n g k l).1 = n1 at *
      generalize (normalRange n g k l).2.1 = n2 at *
      clear hz hz1
      go_wp2_with fail
      refine (isLow_any n g k n1 l _).mono ?_
      rintro e w13 ⟨rfl, b13⟩
      have zb13 := b13.size
      replace BB := Below.step b13 (by omega) BB
      clear b13
      rw [m1]
      go_wp2_with fail
      refine (isHigh_any n g k n2 l _).mono ?_
      rintro e w14 ⟨rfl, b14⟩
      have zb14 := b14.size
      replace BB := Below.step b14 (by omega) BB
      clear b14
      rw [m2]
      go_wp2_with fail
      go_ret
      exact ⟨by first | rfl | exact ret_bool (by simp_all), by (repeat (first | with_reducible assumption | with_reducible exact Below.refl _ _ | with_reducible refine Below.setCell ?_ ?_ _ | with_reducible refine Below.alloc ?_ ?_ _ | with_reducible refine Below.drew ?_ | with_reducible refine below_drewN ?_ _ | with_reducible refine Below.step (by with_reducible assumption) ?_ ?_ | omega | (simp <;> omega) | (simp; done)))⟩
  · have h50 : likeliest p q r = (likeTo p q r (p + 1).toNat, 0) := by unfold likeliest; rw [if_pos (by simpa using hz5)]
    have hdr : drawOk p q r = true := by simpa using hz5
    rw [h50]
    clear h50 hz5
    obtain ⟨⟨p0, p1⟩, ⟨q0, q1⟩, r0, r1⟩ := drawOk_iff.1 hdr
    obtain ⟨m0, m1⟩ : 0 ≤ likeTo p q r (p + 1).toNat ∧ likeTo p q r (p + 1).toNat ≤ p := by
      have e : (p + 1).toNat = p.toNat + 1 := by omega
      rw [e]
      have := likeTo_bd p q r (p.toNat + 1)
      have := likeTo_lt p q r p.toNat
      omega
    have HB := Lib.hid (show ∀ z : Int, 0 ≤ z → z ≤ p → waysZ p q r z z ≤ waysZ p q r (likeTo p q r (p + 1).toNat) (likeTo p q r (p + 1).toNat) from fun z z0 z1 => by
      have := likeTo_best p q r (p + 1).toNat z.toNat (by omega)
      rwa [Int.toNat_of_nonneg z0] at this)
    generalize likeTo p q r (p + 1).toNat = m at *
    obtain ⟨a, b, A, G, W1, E1, hb, g1, h1, w1', hW1, hA⟩ := exact_facts hdr (x := m) m0 (by omega)
    go_wp2_with fail
    refine (chanceOfExactly_any p q r m _).mono ?_
    rintro e w13 ⟨rfl, b13⟩
    have zb13 := b13.size
    replace hx0 := hx0.below b13 (by omega)
    replace BB := Below.step b13 (by omega) BB
    clear b13
    rw [E1]
    go_wp2_with fail
    refine (sChanceOfExactly_any p q r m _).mono ?_
    rintro e w14 ⟨rfl, b14⟩
    have zb14 := b14.size
    replace hx0 := hx0.below b14 (by omega)
    replace BB := Below.step b14 (by omega) BB
    clear b14
    rw [E1]
    have hdb := diceV_bd code (n := p + 1) (by omega)
    obtain ⟨z0, z1⟩ := hdb
    go_wp2_with fail
    refine (roll_any _ code _ _ _ hx0 (by omega) (by omega) hq0).mono ?_
    rintro e w15 ⟨g0, rfl, hg0, hD0, b15⟩
    have zb15 := b15.size
    replace hx0 := hx0.below b15 (by omega)
    replace BB := Below.step b15 (by omega) BB
    clear b15
    go_wp2_with fail
    refine (below_any g0 code (p + 1) _ hD0 (by omega) hq0 (by omega) (by omega)).mono ?_
    rintro e w16 ⟨rfl, c16⟩
    have zc16 := c16.size
    have hgl0 : g0 < w15.heap.size := by
      obtain ⟨_, _, _, _, _, _, hk⟩ := hD0
      exact hk.lt
    replace hx0 := hx0.chg c16 (by omega) (by omega)
    replace BB := BB.trans (c16.below (by omega) (by omega))
    clear c16 hD0
    generalize hdv : diceV code (p + 1) = z at *
    obtain ⟨a2, b2', A2, G2, W2, E2, hb2, g2, h2, w2', hW2, hA2⟩ := exact_facts hdr (x := z) z0 (by omega)
    go_wp2_with fail
    refine (chanceOfExactly_any p q r z _).mono ?_
    rintro e w17 ⟨rfl, b17⟩
    have zb17 := b17.size
    replace hx0 := hx0.below b17 (by omega)
    replace BB := Below.step b17 (by omega) BB
    clear b17
    rw [E2]
    go_wp2_with fail
    refine (roll_any _ code _ _ _ hx0 (by omega) (by omega) hq0).mono ?_
    rintro e w18 ⟨g1, rfl, hg1, hD1, b18⟩
    have zb18 := b18.size
    replace hx0 := hx0.below b18 (by omega)
    replace BB := Below.step b18 (by omega) BB
    clear b18
    go_wp2_with fail
    refine (below_any g1 code (p + 1) _ hD1 (by omega) hq0 (by omega) (by omega)).mono ?_
    rintro e w19 ⟨rfl, c19⟩
    have zc19 := c19.size
    have hgl1 : g1 < w18.heap.size := by
      obtain ⟨_, _, _, _, _, _, hk⟩ := hD1
      exact hk.lt
    replace hx0 := hx0.chg c19 (by omega) (by omega)
    replace BB := BB.trans (c19.below (by omega) (by omega))
    clear c19 hD1
    rw [hdv]
    go_wp2_with fail
    refine (sChanceOfExactly_any p q r z _).mono ?_
    rintro e w20 ⟨rfl, b20⟩
    have zb20 := b20.size
    replace hx0 := hx0.below b20 (by omega)
    replace BB := Below.step b20 (by omega) BB
    clear b20
    rw [E2]
    clear hx0
    go_wp2_with fail
    refine (waysToChoose_any p r _).mono ?_
    rintro e w21 ⟨rfl, b21⟩
    have zb21 := b21.size
    replace BB := Below.step b21 (by omega) BB
    clear b21
    rw [hA.1]
    have hAA : A2 = A := by
      have := hA2.1
      rw [hA.1] at this
      injection this with this
      exact this.symm
    subst hAA
    have hle1 : W2 ≤ W1 := by rw [hW2.1, hW1.1]; exact HB.out z z0 (by omega)
    obtain ⟨-, hA3, hA4⟩ := hA
    obtain ⟨-, hW3, hW4⟩ := hW1
    obtain ⟨-, hW5, hW6⟩ := hW2
    have hb0 : ¬ b = 0 := by omega
    have hb20 : ¬ b2' = 0 := by omega
    clear hA2 HB E1 E2 hdv hdr p0 p1 q0 q1 r0 r1 m0 m1 z0 z1
    go_wp2_with fail
    go_quiet (fail)
    have zq : (w21.drewN nq).heap.size = w21.heap.size := rfl
    replace BB := below_drewN BB nq
    generalize w21.drewN nq = wq at *
    by_cases hz : ¬ (normalRange n g k l).2.2 = 0
    · generalize (normalRange n g k l).1 = n1 at *
      generalize (normalRange n g k l).2.1 = n2 at *
      generalize (normalRange n g k l).2.2 = n3 at *
      have hz' : (n3 != 0) = true := by simpa using hz
      go_wp2_with fail
      go_ret
      exact ⟨rfl, by (repeat (first | with_reducible assumption | with_reducible exact Below.refl _ _ | with_reducible refine Below.setCell ?_ ?_ _ | with_reducible refine Below.alloc ?_ ?_ _ | with_reducible refine Below.drew ?_ | with_reducible refine below_drewN ?_ _ | with_reducible refine Below.step (by with_reducible assumption) ?_ ?_ | omega | (simp <;> omega) | (simp; done)))⟩
    · have hz1 : (normalRange n g k l).2.2 = 0 := by simpa using hz
      obtain ⟨m1, m2, m3⟩ := normal_facts hz1
      have hle := decide_eq_true m3
      rw [hz1]
      generalize (normalRange n g k l).1 = n1 at *
      generalize (normalRange n g k l).2.1 = n2 at *
      clear hz hz1
      go_wp2_with fail
      refine (isLow_any n g k n1 l _).mono ?_
      rintro e w22 ⟨rfl, b22⟩
      have zb22 := b22.size
      replace BB := Below.step b22 (by omega) BB
      clear b22
      rw [m1]
      go_wp2_with fail
      refine (isHigh_any n g k n2 l _).mono ?_
      rintro e w23 ⟨rfl, b23⟩
      have zb23 := b23.size
      replace BB := Below.step b23 (by omega) BB
      clear b23
      rw [m2]
      go_wp2_with fail
      go_ret
      exact ⟨by first | rfl | exact ret_bool (by simp_all), by (repeat (first | with_reducible assumption | with_reducible exact Below.refl _ _ | with_reducible refine Below.setCell ?_ ?_ _ | with_reducible refine Below.alloc ?_ ?_ _ | with_reducible refine Below.drew ?_ | with_reducible refine below_drewN ?_ _ | with_reducible refine Below.step (by with_reducible assumption) ?_ ?_ | omega | (simp <;> omega) | (simp; done)))⟩

set_option maxRecDepth 100000 in
theorem lifted (os : Os) (started : os.Started) (H : Type) (enc : TypeId × Value → H) :
    ReturnsInHanded {} Try.checked os 10 .any (Rows.fnAuditsSpec.pre6 enc Try.prog Try.f10 Rows.fnAuditsRow.domain false) (Rows.fnAuditsSpec.post enc Try.prog Try.f10 false true false false) := by
  refine returnsInHanded_of_change (C := Try.checked) own started (by kernel_rfl) Try.func10
    (ChangeSpec.witness6 (enc := enc) (C := Try.checked) false ⟨#[], #[.slice none 0 0], []⟩ 8 (by kernel_rfl) (by kernel_rfl) (by kernel_rfl) (by kernel_rfl)) ?_
  intro W base args ds gs before hval0 hW hcnd _
  have hval : ∀ (j : Nat) t v, Try.f10.params[j]? = some t → args[j]? = some v → Value.okWide Try.prog W .any base t v := hval0
  have hW' := hW
  obtain ⟨p, q, hA0, hV, rfl, hfz, hnd⟩ := hW
  have hA : DataW.TrodAll enc Try.prog W 0 (fun _ => true) true Try.f10.params.toList args.toList ds p := hA0
  rw [Try.params10] at hA hval
  obtain ⟨v0, vs0, d0, ds0, p0, q0, hargs, rfl, rfl, h0, r0⟩ := trodAll_cons hA
  obtain ⟨rfl, rfl, rfl⟩ := trodAll_nil r0
  obtain rfl : args = #[v0] := by cases args; simp_all
  obtain ⟨rfl, rfl⟩ := trodVars_none hV
  have k0 := h0
  have lt0 : ∀ x ∈ p0, x.block < W.heap.size := by obtain ⟨m, hm⟩ := k0; exact DataW.trod_lt m _ _ _ hm
  obtain ⟨code, hx0, hl0, hq0⟩ := open_bytes Try.underlying39 Try.underlying5 (by kernel_rfl) (hval 0 39 v0 rfl rfl) h0
  clear hA0 hval0
  refine (walk v0 code W hx0 hl0 hq0).mono fun e W' ⟨he, bel⟩ => ?_
  subst he
  exact ⟨_, rfl, _, _, _, [], _, [], hW', trodAll_mk1 (shut_bool Try.underlying4 _), (trodAll_cons_mk (Below.trod laidOut (by kernel_rfl) (of_decide_eq_true (by kernel_rfl)) k0 bel lt0) trodAll_mk0), rfl, bel.frame _, fun h => by cases h⟩

theorem over : Rows.fnAuditsRow.holds Try.pinned (OpenSpec.ofChange Rows.fnAuditsSpec) :=
  OpenClaim.holds_of_wide 10 Try.f10 rfl rfl rfl rfl rfl rfl rfl ⟨rfl, rfl, rfl, rfl, rfl⟩ rfl rfl rfl rfl rfl (by kernel_rfl) Try.func10 (by kernel_rfl)
    (of_decide_eq_true (by kernel_rfl)) (by unfold Func.isWrapper; first | (rw [if_pos (by decide +kernel)]; kernel_rfl) | (rw [if_neg (by decide +kernel)]; exact ⟨rfl, rfl⟩))
    (fun os started H enc _ => lifted os started H enc)

theorem proved : Rows.FnAuditsSaid := over
#print axioms proved
end Go.Proofs.Ytgcmpdfhdhlmgaa.audits
