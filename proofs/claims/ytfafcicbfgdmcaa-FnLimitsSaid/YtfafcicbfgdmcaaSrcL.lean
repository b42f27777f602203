/- Lists while a source is drawn from; small lists of integers; zero rows. -/
import Derived.Test.YtfafcicbfgdmcaaSrcW
namespace Go.Proofs.Ytfafcicbfgdmcaa
open Go.RowKit
set_option linter.unusedVariables false

theorem OwnL.chg {α : Type} {enc : α → List Value} {sz : Nat} {t : TypeId} {w w' : World} {base lo hi : Nat} {v : Value} {xs : List α} (h : OwnL enc sz t w base v xs) (hc : Chg lo hi w w') (hd : hi ≤ base) : OwnL enc sz t w' base v xs := by
  refine ⟨h.1, ?_⟩
  rcases h.2 with hn | ⟨g, cap, cur, rfl, hg, hh, rest⟩
  · exact .inl hn
  · have hlt : g < w.heap.size := by
      rcases Nat.lt_or_ge g w.heap.size with hlt | hge
      · exact hlt
      · rw [Array.getElem?_eq_none hge] at hh; cases hh
    exact .inr ⟨g, cap, cur, rfl, hg, (hc.block g hlt (.inr (by omega))).trans hh, rest⟩
theorem Chg.step {lo hi : Nat} {a b c : World} (h : Chg lo hi a b) (k : Below a.heap.size b c) : Chg lo hi a c :=
  ⟨k.os.trans h.os, k.tape.trans h.tape, k.output.trans h.output, Nat.le_trans h.size k.size, fun i hi ho => (k.block i hi).trans (h.block i hi ho)⟩
theorem rdInts {w : World} {n : Nat} (L : List Int) {cs : Array Value} (hcs : cs.toList = L.map (Value.int .i64)) (hn : n = w.heap.size) : RdF encInt 1 (w.alloc (.cells cs 2)) n (n + 1) (.slice (some ⟨n, 0, none⟩) L.length L.length) L := by
  refine (RdW.of_row (xs := L) (Blk.newAt (w := w) (t := 2) (cs := cs) hn) ?_ (fun i x hi hx j u hu => ?_) _ _ (Nat.le_refl _) (Nat.lt_succ_self _)).rd
  · have := congrArg List.length hcs
    simpa using this
  · have hj : j = 0 := by
      have := (List.getElem?_eq_some_iff.1 hu).1
      simpa [encInt] using this
    subst hj
    simp [encInt] at hu
    subst hu
    rw [← Array.getElem?_toList, hcs]
    simp [hx]
theorem mkRowZ {P : Program} (t e : TypeId) (h1 : P.underlying t = some (.slice e)) (z : Value) (size bytes : Nat)
    (hinfo : (P.info? e).map (fun i => (i.zero, i.size, i.bytes)) = some (some z, size, bytes)) (n : Nat) (hb : bytes * n ≤ 281474976710656) (h63 : n ≤ 9223372036854775807) :
    ∀ W : World, (Instr.makeSlice t (.int .i64 (n : Int)) (.int .i64 (n : Int))).run P W =
      .ok (.slice (some ⟨W.heap.size, 0, none⟩) n n) (W.alloc (.cells (madeCells z.cells (n * size)) e)) := by
  obtain ⟨i, hi, hz, hs, hby⟩ := info_parts hinfo
  intro W
  have hbb : (i.bytes : Int) * (n : Int) ≤ 281474976710656 := by
    rw [hby]
    have h : ((bytes * n : Nat) : Int) ≤ 281474976710656 := by omega
    rwa [Int.natCast_mul] at h
  have hr := run_make (P := P) W t e i z h1 hi hz .i64 .i64 n n (by omega) (by omega) hbb (by omega)
  simp only [Int.toNat_natCast] at hr
  rw [← hs]
  exact hr
theorem madeCells_at (z : Array Value) (n m : Nat) (h : m < n) (u : Value) (hu : z[m % z.size]? = some u) : (madeCells z n)[m]? = some u := by
  unfold madeCells
  simp [h]
  rw [Array.getElem!_eq_getD, Array.getD_eq_getD_getElem?, hu]
  rfl
end Go.Proofs.Ytfafcicbfgdmcaa
