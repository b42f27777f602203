/- Appending one element to a slice of the call's own. Nothing of the program stands here. -/
import Derived.Test.YtfafcicbfgdmcaaMem
namespace Go.Proofs.Ytfafcicbfgdmcaa
open Go.RowKit
set_option linter.unusedVariables false

theorem OwnL.alloc {α : Type} {enc : α → List Value} {sz : Nat} {t : TypeId} {w : World} {base : Nat} {v : Value} {xs : List α} (h : OwnL enc sz t w base v xs) (o : Obj) : OwnL enc sz t (w.alloc o) base v xs := h.below ((Below.refl _ _).alloc (Nat.le_refl _) o)
theorem OwnL.block_ge {α : Type} {enc : α → List Value} {sz : Nat} {t : TypeId} {w : World} {base : Nat} {v : Value} {xs : List α} (h : OwnL enc sz t w base v xs) : ∀ k, v.ownBlock = some k → base ≤ k := fun k hk => (World.ownsRow.lt h k hk).1
theorem OwnL.empty {α : Type} {enc : α → List Value} {sz : Nat} {t : TypeId} (w : World) (base : Nat) (hb : base ≤ w.heap.size) : OwnL enc sz t (w.alloc (.cells #[] t)) base (.slice (some ⟨w.heap.size, 0, none⟩) 0 0) ([] : List α) :=
  World.ownsRow_lit w #[] 0 hb (Nat.zero_le _) (by simp)

theorem wpList_push {P : Program} {ops : Array Oper} {rest : List Oper} {o : Oper} {a : Act} {Q : Exit → Act → World → Prop} {α : Type} {enc : α → List Value} (w0 : World) (n0 : Nat) (hn0 : n0 = w0.heap.size) (hgd : o.guard = none) (s x : Operand) (t : TypeId)
    (ho : o.op = .call { callee := .builtin .append, args := #[s, x], argTypes := #[t, t] })
    (base : Nat) (e te : TypeId) (z : Value) (size bytes : Nat) (ht : P.underlying t = some (.slice e)) (hinfo : (P.info? e).map (fun i => (i.zero, i.size, i.bytes)) = some (some z, size, bytes))
    (hzs : z.cells.size = size) (hsz : 0 < size) (v : Value) (xs : List α) (y : α) (cs : Array Value) (hcs : cs.toList = enc y) (he : (enc y).length = size) (h1 : ∀ u ∈ enc y, u.oneCell' = true)
    (hs : a.eval s = v) (hx : a.eval x = .slice (some ⟨n0, 0, none⟩) 1 1) (hown : OwnL enc size e w0 base v xs) (hlen : xs.length + 1 ≤ 1099511627776) (hb : bytes ≤ 128) (hbase : base ≤ w0.heap.size)
    (h : ∀ v' w', OwnL enc size e w' base v' (xs ++ [y]) → w0.grownBy w' v.ownBlock → (∀ B a0, B ≤ base → Below B a0 w0 → Below B a0 w') → wpList P ops Q rest (a.put o.dst v') w') : wpList P ops Q (o :: rest) a (w0.alloc (.cells cs te)) := by
  subst hn0
  obtain ⟨i, hi, hz, hsi, hby⟩ := info_parts hinfo
  refine wpList_append_own _ hgd s x t ho base e i z size bytes ht hi hz hsi hby hzs hsz v xs.length (xs.flatMap enc) hs (World.ownsRow.alloc hown _) ⟨w0.heap.size, 0, none⟩ 1 1 (enc y) hx (by rw [he]; omega) (fun j u hu => ?_) h1 (by unfold maxLen; omega) ?_ (by simp; omega) (fun v' w' h2 h3 _ => h v' w' (OwnL.snoc h2) ?_ ?_)
  · have hb := Blk.new w0 te cs
    have e1 : (⟨w0.heap.size, 0, none⟩ : Addr).add j = ⟨w0.heap.size, j, none⟩ := by unfold Addr.add; split <;> simp_all
    rw [e1, hb.cell, ← Array.getElem?_toList, hcs, hu]
  · have : (xs.length + 1) * bytes ≤ 1099511627776 * 128 := Nat.mul_le_mul hlen hb
    omega
  · exact ⟨h3.os, h3.tape, h3.output, Nat.le_trans (by simp) h3.size, fun k hk hne => (h3.block k (by simp; omega) hne).trans (Below.heap_alloc _ _ _ hk)⟩
  · intro B a0 hB hbel
    have hb1 : Below B a0 (w0.alloc (.cells cs te)) := hbel.alloc (by omega) _
    exact hb1.grown h3 (by simp; omega) (fun k hk => by have := hown.block_ge k hk; omega)

/-- The indices below k at which p holds. -/
def idxTo {α : Type} (p : α → Bool) (xs : List α) : Nat → List Int
  | 0 => []
  | k + 1 => idxTo p xs k ++ (match xs[k]? with | some x => if p x then [(k : Int)] else [] | none => [])
def idxOf {α : Type} (p : α → Bool) (xs : List α) : List Int := idxTo p xs xs.length
theorem idxTo_len {α : Type} (p : α → Bool) (xs : List α) : ∀ k, (idxTo p xs k).length ≤ k
  | 0 => Nat.le_refl _
  | k + 1 => by
    have := idxTo_len p xs k
    rw [idxTo, List.length_append]
    cases xs[k]? with
    | none => simp; omega
    | some x => cases h : p x <;> simp [h] <;> omega
theorem idxTo_yes {α : Type} {p : α → Bool} {xs : List α} {k : Nat} {x : α} (hx : xs[k]? = some x) (hp : p x = true) : idxTo p xs (k + 1) = idxTo p xs k ++ [(k : Int)] := by simp [idxTo, hx, hp]
theorem idxTo_no {α : Type} {p : α → Bool} {xs : List α} {k : Nat} {x : α} (hx : xs[k]? = some x) (hp : p x = false) : idxTo p xs (k + 1) = idxTo p xs k := by simp [idxTo, hx, hp]
end Go.Proofs.Ytfafcicbfgdmcaa
