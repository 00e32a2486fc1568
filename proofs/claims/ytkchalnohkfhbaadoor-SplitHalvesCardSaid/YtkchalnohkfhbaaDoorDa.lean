/- A range over a function whose first round leaves by a return; draws whose first word is taken. Conditions as in the texts before. -/
import Derived.Test.YtkchalnohkfhbaaDoorPa
import Derived.RangeFuncBox
import Derived.RangeFuncLeaves
import Derived.Shelf.Abstract
import Derived.OwnWalkIn
import Derived.TacticsInMore
import Derived.LoopNIn
import Derived.LoopIn
import Derived.Maps.AppendAt
set_option linter.unusedSimpArgs false
set_option linter.unusedVariables false
namespace Go.Proofs.YtkchalnohkfhbaaDoor
open Go.RowKit Go.Shelf
attribute [local go_sem] Oper.semAt_some

section
variable {F : Fence} {n : Nat} {P : Program}
/-- an iterator that hands out 'enc' first, and leaves where the round says 'no more' -/
def FirstGives (F : Fence) (n : Nat) (P : Program) (gf : Nat) (lb : Array Value) (enc : Array Value) (w : World) : Prop :=
  ∀ (l : Nat) (Jx : World → Prop) (W : World), Below w.heap.size w W →
    (∀ W2, Below W.heap.size W W2 → YieldAt F (n - 1) P l enc W2 fun E W' => E = .returned (.bool false) ∧ Jx W') →
    CallsIn F n P gf (#[.func (.yield l) #[] #[]] ++ lb) W fun E W' => (∃ v, E = .returned v) ∧ Jx W'
/-- the round leaves by a return -/
def firstPost (Ix : World → Prop) (W : World) : Exit → Act → World → Prop
  | .ret, _, W' => KeepsOthers W W' ∧ Ix W'
  | _, _, _ => False
/-- THE LOOP WHOSE FIRST ROUND RETURNS -/
theorem wpIn_rangeFirst {g : Operand} {ps : Array Tmp} {assign body : Code} {Q : Exit → Act → World → Prop} {a : Act} {w : World}
    (hro : F.round = none) (h1 : 1 ≤ n) {gf : Nat} {lb : Array Value} (hg : a.eval g = .func (.func gf) #[] lb) (hFg : F.fn gf) (eg : ∀ args w, (callFunc gf args).run P w = .ok (.enter gf args) w)
    {enc : Array Value} {w0 : World} (hseq : FirstGives F (n - 1) P gf lb enc w0) (hb0 : Below w0.heap.size w0 w) (hps : enc.size = ps.size)
    (a₁ : Act) (Ix : World → Prop) (hIx : OwnFrom w.heap.size fun (_ : Unit) W => Ix W)
    (hassign : ∀ (l : Nat) (W : World) (K : Act → World → Prop), K a₁ W →
      assign.wpIn (F.inRound l) (n - 1 - 1) P (Exit.then K (fun _ _ _ => False)) { tmps := (ps.zip enc).foldl (fun t (p, v) => t.setIfInBounds p v) a.tmps, defers := [] } W)
    (hbody : ∀ (l : Nat) (W : World), Below w.heap.size w W → body.wpIn (F.inRound l) (n - 1 - 1) P (firstPost Ix W) a₁ W)
    (hstop : ∀ (D : Nat) (W : World), w.heap.size ≤ D → Ix W → W.heap[D]? = some (.deferred (some [])) → Code.ret.wpIn F n P Q { a with defers := { target := .collected D, args := #[] } :: a.defers } W) :
    (Code.rangeFunc g ps assign body).wpIn F n P Q a w := by
  refine wpIn_rangeFunc fun fn hfn => ?_
  rw [hro]
  obtain ⟨mk, hmk⟩ : ∃ mk : LoopState → Option Code → Loop, mk = fun st pe => { state := st, pending := pe, fn, tmps := a.tmps, params := ps, assign, body, defers := w.heap.size } := ⟨_, rfl⟩
  obtain ⟨V, hV⟩ : ∃ V, (w.alloc (.deferred (some []))).alloc (.loop (mk .ready none)) = V := ⟨_, rfl⟩
  have vl : V.heap[w.heap.size + 1]? = some (.loop (mk .ready none)) := by
    have := World.alloc_heap_new (w.alloc (.deferred (some []))) (.loop (mk .ready none))
    rw [World.size_alloc] at this
    rw [← hV]
    exact this
  have vd : V.heap[w.heap.size]? = some (.deferred (some [])) := by
    rw [← hV]
    exact (Below.heap_alloc _ _ _ (by simp)).trans (World.alloc_heap_new w _)
  have vw : Below w.heap.size w V := by
    rw [← hV]
    exact ((Below.refl _ w).alloc (Nat.le_refl _) _).alloc (by simp) _
  refine ⟨w.heap.size + 1, [{ target := .collected w.heap.size, args := #[] }], V, { target := .fn (.func gf) lb, args := #[.func (.yield (w.heap.size + 1)) #[] #[]] }, V, gf, #[.func (.yield (w.heap.size + 1)) #[] #[]] ++ lb, V, ?_, ?_, ?_, ?_, fun _ => h1, ?_⟩
  · rw [← hV, hmk]
    exact run_enterLoop_outer _ _ _ _ _
  · simp only [resolve, hg]
    simp [go_sem]
  · intro f' hf'
    simp [Target.leads] at hf'
    subst hf'
    exact hFg
  · simp [invoke, go_sem, eg]
  · refine (hseq (w.heap.size + 1) (fun W => Ix W ∧ W.heap[w.heap.size + 1]? = some (.loop (mk .done (some .ret))) ∧ W.heap[w.heap.size]? = some (.deferred (some []))) V (hb0.trans (vw.mono hb0.size)) ?_).mono ?_
    · intro W hW
      have wl : W.heap[w.heap.size + 1]? = some (.loop (mk .ready none)) := (hW.block _ (Array.getElem?_eq_some_iff.1 vl).1).trans vl
      have wd : W.heap[w.heap.size]? = some (.deferred (some [])) := (hW.block _ (Array.getElem?_eq_some_iff.1 vd).1).trans vd
      have wlt : w.heap.size + 1 < W.heap.size := (Array.getElem?_eq_some_iff.1 wl).1
      have hy := run_yield (P := P) (args := enc) wl (by rw [hmk]; exact hps)
      rw [hmk] at hy
      refine ⟨fn, _, assign, body, hy, roundIn_of_wpIn hfn (hassign _ W _ ⟨_, run_beginRound wl (by rw [hmk]), ?_⟩)⟩
      have bl : (W.putObj (w.heap.size + 1) (.loop { mk .ready none with state := .busy })).heap[w.heap.size + 1]? = some (.loop { mk .ready none with state := .busy }) := World.putObj_heap_same wlt
      have bd : (W.putObj (w.heap.size + 1) (.loop { mk .ready none with state := .busy })).heap[w.heap.size]? = some (.deferred (some [])) := (World.putObj_heap_other (by omega)).trans wd
      have bw : Below w.heap.size w (W.putObj (w.heap.size + 1) (.loop { mk .ready none with state := .busy })) := (vw.trans (hW.mono vw.size)).trans (belowK_b (Nat.le_refl _) W _ _ _ (by omega) wl rfl rfl)
      refine wpIn_mono (hbody _ _ bw) ?_
      rintro e a3 W3 hp
      cases e with
      | ret =>
        obtain ⟨hk3, hi3⟩ := hp
        have l3 := hk3.same _ _ bl rfl
        have r3 := run_endRound (P := P) (some .ret) l3
        have d3 := hk3.same _ _ bd rfl
        have e3 : (W3.putObj (w.heap.size + 1) (.loop (mk .done (some .ret)))).heap[w.heap.size + 1]? = some (.loop (mk .done (some .ret))) := World.putObj_heap_same (Array.getElem?_eq_some_iff.1 l3).1
        have f3 : (W3.putObj (w.heap.size + 1) (.loop (mk .done (some .ret)))).heap[w.heap.size]? = some (.deferred (some [])) := (World.putObj_heap_other (by omega)).trans d3
        have i3 : Ix (W3.putObj (w.heap.size + 1) (.loop (mk .done (some .ret)))) := hIx.putObj (s := ()) _ hi3 (by omega) l3 rfl
        rw [hmk] at r3 e3 f3 i3 ⊢
        exact ⟨_, _, r3, rfl, i3, e3, f3⟩
      | normal => exact hp.elim
      | exit id => exact hp.elim
      | goto t => exact hp.elim
      | panic ch => exact hp.elim
      | outgrown => exact hp.elim
    · rintro e W2 ⟨⟨v, rfl⟩, hi, hl, hk⟩
      have r2 := run_endLoop (P := P) hl (by rw [hmk]; simp)
      rw [hmk] at r2
      refine ⟨some .ret, _, r2, hstop _ _ (Nat.le_refl _) (hIx.putObj (s := ()) _ hi (by omega) hl rfl) ?_⟩
      exact (World.putObj_heap_other (by omega)).trans hk
end
end Go.Proofs.YtkchalnohkfhbaaDoor
