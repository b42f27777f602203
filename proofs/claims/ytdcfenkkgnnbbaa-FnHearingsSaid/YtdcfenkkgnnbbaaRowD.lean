/- Tables of integers, each row in blocks of its own: comparison, marks and their test. -/
import Derived.Test.YtdcfenkkgnnbbaaRowI
import Derived.Test.YtdcfenkkgnnbbaaMarkM
namespace Go.Proofs.Ytdcfenkkgnnbbaa
open Go.RowKit
set_option linter.unusedVariables false

/-- The rows lie in blocks of their own, one behind another. -/
def RowsD (w : World) (lo hi : Nat) (rs : List RowI) : Prop := ∃ f : Nat → Nat, lo ≤ f 0 ∧ f rs.length ≤ hi ∧ (∀ i j, i ≤ j → f i ≤ f j) ∧ ∀ (k : Nat) (r : RowI), rs[k]? = some r → RdW encInt 1 2 w (f k) (f (k + 1)) r.v r.xs
theorem RowsD.below {w w' : World} {lo hi B : Nat} {rs : List RowI} (h : RowsD w lo hi rs) (hb : Below B w w') (hB : hi ≤ B) : RowsD w' lo hi rs := by
  obtain ⟨f, h1, h2, h3, h4⟩ := h
  refine ⟨f, h1, h2, h3, fun k r hr => (h4 k r hr).below hb ?_⟩
  have hk := (List.getElem?_eq_some_iff.1 hr).1
  have := h3 (k + 1) rs.length (by omega)
  omega
theorem RowsD.wide {w : World} {lo hi lo' hi' : Nat} {rs : List RowI} (h : RowsD w lo hi rs) (hl : lo' ≤ lo) (hh : hi ≤ hi') : RowsD w lo' hi' rs := by
  obtain ⟨f, h1, h2, h3, h4⟩ := h
  exact ⟨f, by omega, by omega, h3, h4⟩
theorem RowsD.nil {w : World} {lo hi : Nat} (h : lo ≤ hi) : RowsD w lo hi [] := ⟨fun _ => lo, Nat.le_refl _, h, fun _ _ _ => Nat.le_refl _, fun k r hr => by simp at hr⟩
theorem RowsD.grown {α : Type} {enc : α → List Value} {sz : Nat} {t : TypeId} {w w' : World} {base lo hi : Nat} {v : Value} {xs : List α} {rs : List RowI} (h : RowsD w lo hi rs) (ho : OwnL enc sz t w base v xs) (hg : w.grownBy w' v.ownBlock) (hne : 2 ≠ t) : RowsD w' lo hi rs := by
  obtain ⟨f, h1, h2, h3, h4⟩ := h
  exact ⟨f, h1, h2, h3, fun k r hr => (h4 k r hr).grown ho hg hne⟩
theorem RowsD.snoc {w : World} {lo m m' hi : Nat} {rs : List RowI} {r : RowI} (h : RowsD w lo m rs) (hr : RdW encInt 1 2 w m' hi r.v r.xs) (h1 : m ≤ m') (h2 : m' ≤ hi) : RowsD w lo hi (rs ++ [r]) := by
  obtain ⟨f, a1, a2, a3, a4⟩ := h
  refine ⟨fun j => if j ≤ rs.length then f j else hi, ?_, ?_, fun i j hij => ?_, fun k q hq => ?_⟩
  · simp [a1]
  · simp [show ¬ (rs.length + 1 ≤ rs.length) by omega]
  · simp only
    split <;> split
    · exact a3 i j hij
    · have := a3 i rs.length (by omega); omega
    · omega
    · exact Nat.le_refl _
  · by_cases hk : k < rs.length
    · rw [List.getElem?_append_left hk] at hq
      have := a4 k q hq
      simp only [if_pos (show k ≤ rs.length by omega), if_pos (show k + 1 ≤ rs.length by omega)]
      exact this
    · have hkl := (List.getElem?_eq_some_iff.1 hq).1
      rw [List.length_append] at hkl
      simp at hkl
      have hke : k = rs.length := by omega
      subst hke
      rw [List.getElem?_append_right (Nat.le_refl _)] at hq
      simp at hq
      subst hq
      simp only [if_pos (Nat.le_refl rs.length), if_neg (show ¬ rs.length + 1 ≤ rs.length by omega)]
      exact hr.wide (by omega) (Nat.le_refl _)
theorem RowsD.rows {w : World} {lo hi : Nat} {rs : List RowI} (h : RowsD w lo hi rs) : RowsW w lo hi rs := fun r hr => by
  obtain ⟨f, h1, h2, h3, h4⟩ := h
  obtain ⟨k, hk⟩ := List.getElem?_of_mem hr
  have hl := (List.getElem?_eq_some_iff.1 hk).1
  have a := h3 0 k (by omega)
  have b := h3 (k + 1) rs.length (by omega)
  exact (h4 k r hk).wide (by omega) (by omega)
/-- A table of the call's own. -/
def TabW (w : World) (lo hi : Nat) (v : Value) (L : List (List Int)) : Prop := ∃ rs : List RowI, rs.map RowI.xs = L ∧ RdW RowI.enc 1 83 w lo hi v rs ∧ RowsD w lo hi rs
theorem TabW.below {w w' : World} {lo hi B : Nat} {v : Value} {L : List (List Int)} (h : TabW w lo hi v L) (hb : Below B w w') (hB : hi ≤ B) : TabW w' lo hi v L := by
  obtain ⟨rs, h1, h2, h3⟩ := h
  exact ⟨rs, h1, h2.below hb hB, h3.below hb hB⟩
theorem TabW.chg {w w' : World} {lo hi lo' hi' : Nat} {v : Value} {L : List (List Int)} (h : TabW w lo hi v L) (hc : Chg lo' hi' w w') (hs : hi ≤ w.heap.size) (hd : hi ≤ lo' ∨ hi' ≤ lo) : TabW w' lo hi v L := by
  obtain ⟨rs, h1, h2, f, a1, a2, a3, a4⟩ := h
  refine ⟨rs, h1, h2.chg hc hs hd, f, a1, a2, a3, fun k r hr => ?_⟩
  have hl := (List.getElem?_eq_some_iff.1 hr).1
  have a := a3 0 k (by omega)
  have b := a3 (k + 1) rs.length (by omega)
  exact (a4 k r hr).chg hc (by omega) (by omega)
theorem TabW.rd {w : World} {lo hi : Nat} {v : Value} {L : List (List Int)} (h : TabW w lo hi v L) : RdII w lo hi v L := by
  obtain ⟨rs, h1, h2, h3⟩ := h
  exact ⟨rs, h1, h2.rd, h3.rows⟩
theorem TabW.nil {w : World} {lo hi : Nat} (h : lo ≤ hi) : TabW w lo hi (.slice none 0 0) [] := ⟨[], rfl, RdW.nil, RowsD.nil h⟩
/-- While a call makes a table. -/
def OwnTab (w : World) (base : Nat) (v : Value) (L : List (List Int)) : Prop := ∃ rs : List RowI, rs.map RowI.xs = L ∧ OwnL RowI.enc 1 83 w base v rs ∧ RowsD w base w.heap.size rs
theorem OwnTab.below {w w' : World} {base : Nat} {v : Value} {L : List (List Int)} (h : OwnTab w base v L) (hb : Below w.heap.size w w') : OwnTab w' base v L := by
  obtain ⟨rs, h1, h2, h3⟩ := h
  exact ⟨rs, h1, h2.below hb, (h3.below hb (Nat.le_refl _)).wide (Nat.le_refl _) hb.size⟩
theorem OwnTab.emptyAt {w : World} {base n : Nat} (hn : n = w.heap.size) (hb : base ≤ w.heap.size) : OwnTab (w.alloc (.cells #[] 83)) base (.slice (some ⟨n, 0, none⟩) 0 0) [] :=
  ⟨[], rfl, OwnL.emptyAt hn hb, RowsD.nil (by simp; omega)⟩
theorem OwnTab.tab {w : World} {base : Nat} {v : Value} {L : List (List Int)} (h : OwnTab w base v L) : TabW w base w.heap.size v L := by
  obtain ⟨rs, h1, h2, h3⟩ := h
  exact ⟨rs, h1, h2.rdw (fun _ => rfl), h3⟩
def totL (L : List (List Int)) : Nat := (L.map List.length).sum
theorem totL_succ {L : List (List Int)} {k : Nat} {l : List Int} (h : L[k]? = some l) : totL (L.take (k + 1)) = totL (L.take k) + l.length := by simp [totL, List.take_add_one, h]
theorem totL_le (L : List (List Int)) (k : Nat) : totL (L.take k) ≤ totL L := by
  have h : totL L = totL (L.take k) + totL (L.drop k) := by
    unfold totL
    rw [← List.sum_append, ← List.map_append, List.take_append_drop]
  omega
theorem totL_row {L : List (List Int)} {k : Nat} {l : List Int} (h : L[k]? = some l) : totL (L.take k) + l.length ≤ totL L := by
  have h1 := totL_succ h
  have h2 := totL_le L (k + 1)
  omega
/-- A table whose cells are marked. -/
def MarkT (w : World) (lo hi : Nat) (v : Value) (L : List (List Int)) (m : Int) : Prop := ∃ rs : List RowI, rs.map RowI.xs = L ∧ RdF RowI.enc 1 w lo hi v rs ∧ ∀ (k : Nat) (r : RowI), rs[k]? = some r → RdF encInt 1 w lo hi r.v (marksI (m + (totL (L.take k) : Int)) r.xs.length)
theorem MarkT.below {w w' : World} {lo hi B : Nat} {v : Value} {L : List (List Int)} {m : Int} (h : MarkT w lo hi v L m) (hb : Below B w w') (hB : hi ≤ B) : MarkT w' lo hi v L m := by
  obtain ⟨rs, h1, h2, h3⟩ := h
  exact ⟨rs, h1, h2.below hb hB, fun k r hr => (h3 k r hr).below hb hB⟩
theorem MarkT.chg {w w' : World} {lo hi lo' hi' : Nat} {v : Value} {L : List (List Int)} {m : Int} (h : MarkT w lo hi v L m) (hc : Chg lo' hi' w w') (hs : hi ≤ w.heap.size) (hd : hi ≤ lo' ∨ hi' ≤ lo) : MarkT w' lo hi v L m := by
  obtain ⟨rs, h1, h2, h3⟩ := h
  exact ⟨rs, h1, h2.chg hc hs hd, fun k r hr => (h3 k r hr).chg hc hs hd⟩

set_option maxRecDepth 100000 in
set_option maxHeartbeats 1000000 in
theorem eqInt64SS_any (v v' : Value) (L : List (List Int)) (lo hi lo' hi' : Nat) (w : World) (h : RdII w lo hi v L) (hh : hi ≤ w.heap.size) (h' : RdII w lo' hi' v' L) (hh' : hi' ≤ w.heap.size) (hl : L.length ≤ 1048576) (hr : totL L ≤ 1048576) :
    Calls Try.prog 39 #[v, v'] w fun e w' => e = .returned (.bool true) ∧ Below w.heap.size w w' := by
  obtain ⟨A, c, rfl, hc⟩ := h.form
  obtain ⟨A', c', rfl, hc'⟩ := h'.form
  go_enter Try.func39, Try.ntmps39
  go_wp2_with fail
  go_loopw [5] (fun i wr => ∃ k : Nat, k ≤ L.length ∧ i = .int .i64 k ∧ Below w.heap.size w wr) (fun i _ => L.length - (intOf i).toNat)
  case atStart => exact ⟨0, Nat.zero_le _, rfl, Below.refl _ _⟩
  case round =>
    obtain ⟨k, hk, rfl, hbel⟩ := hrel
    have z0 := hbel.size
    by_cases hlt : k < L.length
    · have hki : (k : Int) < (L.length : Int) := by omega
      obtain ⟨l, al, cl, b, off, HS, rfl, hbw, x1, hrl⟩ := RdII.at h hbel hh hlt
      obtain ⟨l', al', cl', b', off', HS', rfl, hbw', x1', hrl'⟩ := RdII.at h' hbel hh' hlt
      obtain rfl : l' = l := by have := HS'.out; rw [HS.out] at this; injection this with this; exact this.symm
      have hll := totL_row HS.out
      clear HS'
      go_wp2_with fail
      go_region_held3 (fun w' => w'.cell? ⟨b, off + k, none⟩ = some (.slice al l'.length cl) ∧ w'.cell? ⟨b', off' + k, none⟩ = some (.slice al' l'.length cl')) (go_keep)
        (first | (go_at_call 63; refine (eqInt64S_any _ _ l' l' _ _ _ _ _ ((hrl.rd.below (B := wr.heap.size) (Below.refl _ wr) (by omega)).below (B := wr.heap.size) (Below.refl _ wr).drew (by omega)) (by show _ ≤ wr.heap.size; omega) ((hrl'.rd.below (B := wr.heap.size) (Below.refl _ wr) (by omega)).below (B := wr.heap.size) (Below.refl _ wr).drew (by omega)) (by show _ ≤ wr.heap.size; omega) (by omega) (by omega)).mono ?_; rintro e w5 ⟨rfl, b5⟩; replace b5 : Below wr.heap.size wr w5 := Below.undrew b5; have z5 := b5.size; have kq0 := (b5.cell (p := ⟨b, off + k, none⟩) (by show b < _; omega)).trans x1; have kq1 := (b5.cell (p := ⟨b', off' + k, none⟩) (by show b' < _; omega)).trans x1'))
      clear kq0 kq1
      have b5' := b5
      rw [show eqL intEq l' l' = true from (eqL_iff (fun x y => intEq_iff x y)).2 rfl]
      go_wp2_with fail
      go_roundw
      case rel => exact ⟨k + 1, by omega, by go_num, Below.step b5' z0 hbel⟩
      case measure => simp [intOf]; omega
    · go_wp2_with fail
      go_ret
      exact ⟨rfl, hbel⟩
set_option maxRecDepth 100000 in
set_option maxHeartbeats 1000000 in
theorem markInt64SS_any (v : Value) (L : List (List Int)) (lo hi : Nat) (m : Int) (w : World) (h : TabW w lo hi v L) (hh : hi ≤ w.heap.size) (hl : L.length ≤ 1048576) (hr : totL L ≤ 1048576) (h0 : 0 ≤ m) (h1 : m ≤ 1048576) :
    Calls Try.prog 42 #[v, .int .i64 m] w fun e w' => e = .returned (.int .i64 (m + (totL L : Int))) ∧ MarkT w' lo hi v L m ∧ Chg lo hi w w' := by
  obtain ⟨rs, hL, hR, f, f0, f1, f2, f3⟩ := h
  obtain ⟨A, c, rfl, hc⟩ := RdF.form hR.rd
  have hln : rs.length = L.length := by rw [← hL]; simp
  have HF2 := Lib.hid f2
  have HF3 := Lib.hid f3
  have HL := Lib.hid hL
  have HLN := Lib.hid hln
  have hrl : rs.length ≤ 1048576 := by omega
  clear f2 f3 hL hln
  go_enter Try.func42, Try.ntmps42
  go_wp2_with fail
  go_loopw [1, 5] (fun q i wr => ∃ k : Nat, k ≤ rs.length ∧ i = .int .i64 k ∧ q = .int .i64 (m + (totL (L.take k) : Int)) ∧ Mrk 2 lo hi w wr ∧ Hid (∀ (j : Nat) (r : RowI), rs[j]? = some r → RdW encInt 1 2 wr (f j) (f (j + 1)) r.v (if j < k then marksI (m + (totL (L.take j) : Int)) r.xs.length else r.xs))) (fun _ i _ => rs.length - (intOf i).toNat)
  case atStart => exact ⟨0, Nat.zero_le _, rfl, by simp [totL], Mrk.refl _ _ _ _, fun j r hr => by simpa using HF3.out j r hr⟩
  case round =>
    obtain ⟨k, hk, rfl, rfl, hmk, HW⟩ := hrel
    have z0 := hmk.chg.size
    have htk := totL_le L k
    by_cases hlt : k < rs.length
    · have hki : (k : Int) < (rs.length : Int) := by omega
      have hRw := (hR.mrk hmk (by decide)).rd
      obtain ⟨r, b, off, HS, rfl, -, hbw, hcell⟩ := RdF.get hRw (Below.refl wr.heap.size wr) (by omega) hlt
      have x1 : wr.cell? ⟨b, off + k, none⟩ = some (.slice r.a r.xs.length r.c) := by simpa using hcell 0 _ rfl
      have HLK := Lib.hid (show L[k]? = some r.xs by rw [← HL.out]; exact map_at (f := RowI.xs) rfl HS.out)
      have hrow := HW.out k r HS.out
      rw [if_neg (by omega)] at hrow
      have htr := totL_row HLK.out
      have HTS := Lib.hid (totL_succ HLK.out)
      have g1 := HF2.out 0 k (by omega)
      have g2 := HF2.out (k + 1) rs.length (by omega)
      have g3 := HF2.out k (k + 1) (by omega)
      clear hcell hRw
      go_wp2_with fail
      refine (markIntM_any _ r.xs (f k) (f (k + 1)) _ _ hrow (by omega) (by omega) (by omega) (by omega)).mono ?_
      rintro e w5 ⟨rfl, hg5, mk5⟩
      have z5 := mk5.chg.size
      have hm5 : Mrk 2 lo hi wr w5 := ⟨mk5.chg.wide (by omega) (by omega), mk5.form⟩
      go_wp2_with fail
      go_roundw
      case rel =>
        refine ⟨k + 1, by omega, by go_num, by rw [HTS.out]; simp [Int.add_assoc], hmk.trans hm5, fun j q hq => ?_⟩
        have hjl := (List.getElem?_eq_some_iff.1 hq).1
        by_cases hjk : j = k
        · subst hjk
          obtain rfl : q = r := by have := HS.out; rw [hq] at this; injection this
          rw [if_pos (by omega)]
          exact hg5
        · have a := HF2.out 0 j (by omega)
          have b' := HF2.out (j + 1) rs.length (by omega)
          have hd : f (j + 1) ≤ f k ∨ f (k + 1) ≤ f j := by
            by_cases hj2 : j < k
            · exact .inl (HF2.out (j + 1) k (by omega))
            · exact .inr (HF2.out (k + 1) j (by omega))
          have hj := (HW.out j q hq).chg mk5.chg (by omega) hd
          by_cases hj3 : j < k
          · rw [if_pos (by omega)]
            rw [if_pos hj3] at hj
            exact hj
          · rw [if_neg (by omega)]
            rw [if_neg hj3] at hj
            exact hj
      case measure => simp [intOf]; omega
    · have hkn : k = rs.length := by omega
      have HT := Lib.hid (show totL (L.take k) = totL L by rw [List.take_of_length_le (by rw [← HLN.out]; omega)])
      go_wp2_with fail
      go_ret
      refine ⟨ret_int (by rw [HT.out]), ⟨rs, HL.out, (hR.mrk hmk (by decide)).rd, fun j r hj => ?_⟩, hmk.chg⟩
      have hjl := (List.getElem?_eq_some_iff.1 hj).1
      have := HW.out j r hj
      rw [if_pos (by omega)] at this
      have a := HF2.out 0 j (by omega)
      have b' := HF2.out (j + 1) rs.length (by omega)
      exact (this.rd).wide (by omega) (by omega)
set_option maxRecDepth 100000 in
set_option maxHeartbeats 1000000 in
theorem heldInt64SS_any (v : Value) (L : List (List Int)) (lo hi : Nat) (m : Int) (w : World) (h : MarkT w lo hi v L m) (hh : hi ≤ w.heap.size) (hl : L.length ≤ 1048576) (hr : totL L ≤ 1048576) (h0 : 0 ≤ m) (h1 : m ≤ 1048576) :
    Calls Try.prog 43 #[v, .int .i64 m] w fun e w' => e = .returned (.int .i64 (m + (totL L : Int))) ∧ Below w.heap.size w w' := by
  obtain ⟨rs, hL, hR, hM⟩ := h
  obtain ⟨A, c, rfl, hc⟩ := hR.form
  have hln : rs.length = L.length := by rw [← hL]; simp
  have HM := Lib.hid hM
  have HL := Lib.hid hL
  have HLN := Lib.hid hln
  have hrl : rs.length ≤ 1048576 := by omega
  clear hM hL hln
  go_enter Try.func43, Try.ntmps43
  go_wp2_with fail
  go_loopw [1, 5] (fun q i wr => ∃ k : Nat, k ≤ rs.length ∧ i = .int .i64 k ∧ q = .int .i64 (m + (totL (L.take k) : Int)) ∧ Below w.heap.size w wr) (fun _ i _ => rs.length - (intOf i).toNat)
  case atStart => exact ⟨0, Nat.zero_le _, rfl, by simp [totL], Below.refl _ _⟩
  case round =>
    obtain ⟨k, hk, rfl, rfl, hbel⟩ := hrel
    have z0 := hbel.size
    have htk := totL_le L k
    by_cases hlt : k < rs.length
    · have hki : (k : Int) < (rs.length : Int) := by omega
      obtain ⟨r, b, off, HS, rfl, -, hbw, hcell⟩ := RdF.get hR hbel hh hlt
      have x1 : wr.cell? ⟨b, off + k, none⟩ = some (.slice r.a r.xs.length r.c) := by simpa using hcell 0 _ rfl
      have HLK := Lib.hid (show L[k]? = some r.xs by rw [← HL.out]; exact map_at (f := RowI.xs) rfl HS.out)
      have hrow := (HM.out k r HS.out).below hbel hh
      have htr := totL_row HLK.out
      have HTS := Lib.hid (totL_succ HLK.out)
      clear hcell
      go_wp2_with fail
      refine (heldInt64S_any _ r.xs.length lo hi _ _ hrow (by omega) (by omega) (by omega) (by omega)).mono ?_
      rintro e w5 ⟨rfl, b5⟩
      have hp : ¬ m + (totL (L.take k) : Int) + (r.xs.length : Int) < 0 := by omega
      go_wp2_with fail
      go_roundw
      case rel => exact ⟨k + 1, by omega, by go_num, by rw [HTS.out]; simp [Int.add_assoc], Below.step b5 z0 hbel⟩
      case measure => simp [intOf]; omega
    · have hkn : k = rs.length := by omega
      have HT := Lib.hid (show totL (L.take k) = totL L by rw [List.take_of_length_le (by rw [← HLN.out]; omega)])
      go_wp2_with fail
      go_ret
      exact ⟨ret_int (by rw [HT.out]), hbel⟩
end Go.Proofs.Ytdcfenkkgnnbbaa
