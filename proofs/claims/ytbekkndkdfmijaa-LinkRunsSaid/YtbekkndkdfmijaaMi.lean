/- A row of bytes appended in a region that draws its order. No condition but sizes. -/
import Derived.Test.YtbekkndkdfmijaaMh
set_option linter.unusedSimpArgs false
set_option linter.unusedVariables false
namespace Go.Proofs.Ytbekkndkdfmijaa
open Go.RowKit Go

theorem row_q {o : Oper} {a : Act} {K : Act → World → Prop} {Q : Exit → Act → World → Prop} {w1 w2 W : World} {B cc : Nat} {v u : Value} {vs : List Value} {ls : List (List UInt8)} {l : List UInt8} {ad : Addr} (s x : Operand)
    (HO : Hid (w1.ownsRow B 33 1 v ls.length vs ∧ Rws w1 vs ls)) (HU : Hid (Sl w2 u l)) (hN : Hid (ls.length ≤ 100000)) (hB : Hid (B ≤ w1.heap.size))
    (ho : o.op = .call { callee := .builtin .append, args := #[s, x], argTypes := #[28, 28] }) (hs : a.eval s = v) (hx : a.eval x = .slice (some ad) 1 cc) (hcell : W.cell? ad = some u) (k1 : Ok w1 W) (k2 : Ok w2 W)
    (h : ∀ A d w', Hid (w'.ownsRow B 33 1 (.slice A (ls.length + 1) d) (ls.length + 1) (vs ++ [u]) ∧ Rws w' (vs ++ [u]) (ls ++ [l])) → Below B W w' → U8 W w' → K (a.put o.dst (.slice A (ls.length + 1) d)) w') : o.wp Try.prog a W K Q := by
  obtain ⟨i0, hi, hz0, hz1, hz2⟩ := info_parts info33
  obtain ⟨ho1, hr1⟩ := HO.out
  have h1 := hN.out
  have h3 := hB.out
  have h4 := k1.size
  have hO := own_ok ho1 k1
  have hS := HU.out.u8 (U8.bel k2)
  obtain ⟨A1, n1, c1, rfl, hnc, hb⟩ := hS
  refine wp_append_own W s x 28 ho B 33 i0 (.slice none 0 0) 1 24 Try.underlying28 hi hz0 hz1 hz2 rfl (by decide) v ls.length vs hs hO ad 1 cc [.slice A1 n1 c1] hx rfl (fun j u hj => ?_) (fun u hm => ?_) (by unfold maxLen; omega) (by omega) (by omega) ?_
  · cases j with
    | zero => injection hj with hj; rw [← hj]; exact hcell
    | succ j => simp at hj
  · simp at hm; subst hm; rfl
  intro v' w' ho' hg _
  have u8 : U8 W w' := U8.grown hg (own_not_u8 hO (by decide))
  obtain ⟨A, d, rfl, hd, -, -⟩ := own_slice ho'
  exact h A d w' (Lib.hid ⟨by simpa using ho', ((hr1.u8 (U8.bel k1)).u8 u8).snoc ⟨A1, n1, c1, rfl, hnc, hb.u8 u8⟩⟩) ((Below.refl B W).grown hg (by omega) (fun b e => (hO.lt b e).1)) u8
end Go.Proofs.Ytbekkndkdfmijaa
