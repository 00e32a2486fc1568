/- The plain part of leaves: nodes, their parts, what a stack of nodes still hands out. No condition. -/
import Derived.Test.YtnionejefpnfoaaDoorVc
import Derived.Test.YtnionejefpnfoaaDoorVd
set_option linter.unusedSimpArgs false
set_option linter.unusedVariables false
namespace Go.Proofs.YtnionejefpnfoaaDoor
open Go.RowKit Go.Shelf Go
attribute [local go_sem] Oper.semAt_some

/-- a node: its first part, its number of parts, its total -/
abbrev Nd := Nat × Nat × Int
/-- the cells of nodes -/
def nCells : List Nd → List Value
  | [] => []
  | x :: L => .int .i64 (x.1 : Int) :: .int .i64 (x.2.1 : Int) :: .int .i64 x.2.2 :: nCells L
def wgt : List Nd → Nat
  | [] => 0
  | x :: L => max 1 x.2.1 + wgt L
def ms : List Nd → Nat
  | [] => 0
  | x :: L => max 1 (2 * x.2.1 - 1) + ms L
theorem nCells_app (L M : List Nd) : nCells (L ++ M) = nCells L ++ nCells M := by
  induction L with
  | nil => rfl
  | cons x L ih => simp [nCells, ih]
theorem wgt_app (L M : List Nd) : wgt (L ++ M) = wgt L + wgt M := by
  induction L with
  | nil => simp [wgt]
  | cons x L ih => simp only [List.cons_append, wgt, ih]; omega
theorem ms_app (L M : List Nd) : ms (L ++ M) = ms L + ms M := by
  induction L with
  | nil => simp [ms]
  | cons x L ih => simp only [List.cons_append, ms, ih]; omega
theorem nCells_len (L : List Nd) : (nCells L).length = L.length * 3 := by
  induction L with
  | nil => rfl
  | cons x L ih => simp only [nCells, List.length_cons, ih]; omega
theorem wgt_len (L : List Nd) : L.length ≤ wgt L := by
  induction L with
  | nil => exact Nat.le_refl _
  | cons x L ih => simp only [wgt, List.length_cons]; omega
theorem nCells_one (L : List Nd) : ∀ v ∈ nCells L, v.oneCell' = true := by
  induction L with
  | nil => intro v hv; cases hv
  | cons x L ih =>
    intro v hv
    simp only [nCells, List.mem_cons] at hv
    rcases hv with rfl | rfl | rfl | hv
    · rfl
    · rfl
    · rfl
    · exact ih v hv
/-- THE PARTS OF A NODE, whose left total is D -/
def parts (D : Nat → Nat → Int → Int) (a n : Nat) (t : Int) : List Int :=
  if n < 2 then (if n = 1 then [t] else []) else parts D a (n / 2) (D a n t) ++ parts D (a + n / 2) (n - n / 2) (t - D a n t)
termination_by n
theorem parts_one (D : Nat → Nat → Int → Int) (a : Nat) (t : Int) : parts D a 1 t = [t] := by rw [parts]; simp
theorem parts_none (D : Nat → Nat → Int → Int) (a : Nat) (t : Int) : parts D a 0 t = [] := by rw [parts]; simp
theorem parts_two (D : Nat → Nat → Int → Int) (a n : Nat) (t : Int) (h : 2 ≤ n) : parts D a n t = parts D a (n / 2) (D a n t) ++ parts D (a + n / 2) (n - n / 2) (t - D a n t) := by rw [parts, if_neg (by omega)]
theorem parts_len (D : Nat → Nat → Int → Int) (n : Nat) : ∀ (a : Nat) (t : Int), (parts D a n t).length = n := by
  induction n using Nat.strongRecOn with
  | ind n ih =>
    intro a t
    by_cases h : 2 ≤ n
    · rw [parts_two D a n t h, List.length_append, ih _ (by omega), ih _ (by omega)]; omega
    · rcases (show n = 0 ∨ n = 1 by omega) with rfl | rfl
      · rw [parts_none]; rfl
      · rw [parts_one]; rfl
/-- what a stack still hands out: its last node first -/
def outs (D : Nat → Nat → Int → Int) : List Nd → List Int
  | [] => []
  | x :: L => outs D L ++ parts D x.1 x.2.1 x.2.2
theorem outs_app (D : Nat → Nat → Int → Int) (L M : List Nd) : outs D (L ++ M) = outs D M ++ outs D L := by
  induction L with
  | nil => simp [outs]
  | cons x L ih => simp [outs, ih]
/-- what the stack still asks for, read off the world -/
def sumTo (f : Nat → Nat) : Nat → Nat
  | 0 => 0
  | k + 1 => f 0 + sumTo (fun j => f (j + 1)) k
def want : Option Value → Nat
  | some (.int _ x) => max 1 (2 * x.toNat - 1)
  | _ => 0
def left (v : Value) (W : World) : Nat := match v with
  | .slice (some ad) k _ => sumTo (fun j => want (W.cell? (ad.add (j * 3 + 1)))) k
  | _ => 0
theorem sum_ms (L : List Nd) (cell : Nat → Option Value) (h : ∀ (j : Nat) (v : Value), (nCells L)[j]? = some v → cell j = some v) : sumTo (fun j => want (cell (j * 3 + 1))) L.length = ms L := by
  induction L generalizing cell with
  | nil => rfl
  | cons x L ih =>
    simp only [List.length_cons, sumTo, ms]
    rw [h (0 * 3 + 1) (.int .i64 (x.2.1 : Int)) rfl]
    have := ih (fun j => cell (j + 3)) (fun j v hv => h (j + 3) v hv)
    simp only [show ∀ j : Nat, (j + 1) * 3 + 1 = j * 3 + 1 + 3 from fun j => by omega]
    rw [this]
    simp [want]
theorem left_eq {W : World} {base c : Nat} {A : Option Addr} {L : List Nd} (h : W.ownsRow base 53 3 (.slice A L.length c) L.length (nCells L)) : left (.slice A L.length c) W = ms L := by
  rcases h.2 with ⟨hv, hl⟩ | ⟨g, cap, cur, hv, -, hh, -⟩
  · injection hv with e1 e2 e3
    subst e1
    cases L with
    | nil => rfl
    | cons x L => simp at hl
  · injection hv with e1 e2 e3
    subst e1
    exact sum_ms L (fun j => W.cell? ((⟨g, 0, none⟩ : Addr).add j)) (fun j v hv => h.cells (g := g) rfl j v hv)
theorem own_pop {w : World} {base c k size : Nat} {e : TypeId} {A : Option Addr} {xs ys : List Value} (h : w.ownsRow base e size (.slice A (k + 1) c) (k + 1) (xs ++ ys)) (hx : xs.length = k * size) : w.ownsRow base e size (.slice A k c) k xs := by
  obtain ⟨hl, ho⟩ := h
  refine ⟨hx, .inr ?_⟩
  rcases ho with ⟨hv, h0⟩ | ⟨g', cap, cur, hv, h1, hh, h2, h3, h4, h5⟩
  · cases h0
  · injection hv with e1 e2 e3
    subst e3
    refine ⟨g', c, cur, by rw [e1], h1, hh, by omega, h3, h4, ?_⟩
    have h6 : (cur.toList.take ((k + 1) * size)).take (k * size) = xs := by rw [h5, ← hx, List.take_left']; rfl
    rw [← h6, List.take_take, Nat.min_eq_left (Nat.mul_le_mul_right _ (by omega))]
/-- a round keeps all blocks but those of numbers and of slices of numbers -/
structure KeepT (B : Nat) (W W' : World) : Prop where
  blk : ∀ g t cs, Blk W g t cs → t ≠ 3 → t ≠ 22 → Blk W' g t cs
  below : Below B W W'
theorem keepT_t {B : Nat} {X Y Z : World} (h : KeepT B X Y) (k : KeepT B Y Z) : KeepT B X Z := ⟨fun g t cs hc h1 h2 => k.blk g t cs (h.blk g t cs hc h1 h2) h1 h2, h.below.trans k.below⟩
theorem blk_putObj {W : World} {g : Nat} {t : TypeId} {cs : Array Value} (hc : Blk W g t cs) {l : Nat} {o : Obj} (o' : Obj) (hl : W.heap[l]? = some o) (ho : o.isCells = false) : Blk (W.putObj l o') g t cs := by
  refine hc.grown (grownBy_putObj' W l o') ?_
  rintro e
  injection e with e
  subst e
  unfold Blk at hc
  rw [hc] at hl
  injection hl with hl
  subst hl
  cases ho
theorem keepT_b (B : Nat) (W : World) (l : Nat) (o o' : Obj) (hB : B ≤ l) (hl : W.heap[l]? = some o) (ho : o.isCells = false) : KeepT B W (W.putObj l o') :=
  ⟨fun g t cs hc _ _ => blk_putObj hc o' hl ho, (Below.refl B W).grown (grownBy_putObj' W l o') (by have := (Array.getElem?_eq_some_iff.1 hl).1; omega) (fun k e => by cases e; omega)⟩
theorem KeepT.row {B base size k : Nat} {e : TypeId} {v : Value} {xs : List Value} {W W' : World} (h : KeepT B W W') (hr : W.ownsRow base e size v k xs) (h1 : e ≠ 3) (h2 : e ≠ 22) : W'.ownsRow base e size v k xs := by
  refine ⟨hr.1, ?_⟩
  rcases hr.2 with hn | ⟨g, cap, cur, hv, hg, hh, rest⟩
  · exact .inl hn
  · exact .inr ⟨g, cap, cur, hv, hg, h.blk g e cur hh h1 h2, rest⟩
theorem grownBy_of_below {W W' : World} (h : Below W.heap.size W W') : W.grownBy W' none := ⟨h.os, h.tape, h.output, h.size, fun k hk _ => h.block k hk⟩
end Go.Proofs.YtnionejefpnfoaaDoor
