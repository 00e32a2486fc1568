/- A range over an iterator that writes blocks of its own (of one element type) between two rounds: each round goes on. No condition. -/
import Derived.Test.YtnionejefpnfoaaDoorDg
set_option linter.unusedSimpArgs false
set_option linter.unusedVariables false
namespace Go.Proofs.YtnionejefpnfoaaDoor
open Go.RowKit Go.Shelf
attribute [local go_sem] Oper.semAt_some

section
variable {F : Fence} {n : Nat} {P : Program}
/-- abides whatever happens, from B on, to blocks that hold no cells or cells of type t -/
def AbideT (B : Nat) (t : TypeId) (I : List Int → World → Prop) : Prop :=
  ∀ s W W' row, I s W → W.grownBy W' row → (∀ r, row = some r → B ≤ r ∧ ∃ o : Obj, W.heap[r]? = some o ∧ (o.isCells = false ∨ ∃ cs, o = .cells cs t (0, 0))) → I s W'
theorem AbideT.putObj {B : Nat} {t : TypeId} {I : List Int → World → Prop} (h : AbideT B t I) {s : List Int} {W : World} {l : Nat} {o : Obj} (o' : Obj) (hs : I s W) (hB : B ≤ l) (hl : W.heap[l]? = some o) (ho : o.isCells = false) : I s (W.putObj l o') :=
  h s W _ (some l) hs (grownBy_putObj' W l o') (fun r e => by cases e; exact ⟨hB, o, hl, .inl ho⟩)
theorem AbideT.alloc {B : Nat} {t : TypeId} {I : List Int → World → Prop} (h : AbideT B t I) {s : List Int} {W : World} (o : Obj) (hs : I s W) : I s (W.alloc o) :=
  h s W _ none hs (World.grownBy_alloc W o none) (fun r e => by cases e)
/-- an iterator that hands out the numbers xs, and writes between two rounds new blocks and its own blocks of type t alone -/
def SeqT (F : Fence) (n : Nat) (P : Program) (gf : Nat) (lb : Array Value) (t : TypeId) (Kp : World → World → Prop) (xs : List Int) (w : World) : Prop :=
  ∀ (l : Nat) (J : List Int → World → Prop) (W : World), Below w.heap.size w W →
    (∀ s A B row, J s A → A.grownBy B row → (∀ r, row = some r → W.heap.size ≤ r ∧ ∃ cs, A.heap[r]? = some (.cells cs t (0, 0))) → J s B) →
    (∀ pre x W1, J pre W1 → pre ++ [x] <+: xs → YieldAt F (n - 1) P l #[.int .i64 x] W1 fun E W' => E = .returned (.bool true) ∧ J (pre ++ [x]) W' ∧ Kp W1 W') →
    J [] W → CallsIn F n P gf (#[.func (.yield l) #[] #[]] ++ lb) W fun E W' => (∃ v, E = .returned v) ∧ J xs W'
/-- the round goes on -/
def goesPost (Kp : World → World → Prop) (I : List Int → World → Prop) (xs : List Int) (W : World) : Exit → Act → World → Prop
  | .normal, _, W' => KeepsOthers W W' ∧ Kp W W' ∧ I xs W'
  | _, _, _ => False
theorem wpIn_rangeT {g : Operand} {ps : Array Tmp} {assign body : Code} {Q : Exit → Act → World → Prop} {a : Act} {w : World}
    (hro : F.round = none) (h1 : 1 ≤ n) {gf : Nat} {lb : Array Value} (hg : a.eval g = .func (.func gf) #[] lb) (hFg : F.fn gf) (eg : ∀ args w, (callFunc gf args).run P w = .ok (.enter gf args) w)
    {t : TypeId} {Kp : World → World → Prop} {xs : List Int} {w0 : World} (hseq : SeqT F (n - 1) P gf lb t Kp xs w0)
    (hKt : ∀ {A B C : World}, Kp A B → Kp B C → Kp A C) (hKb : ∀ (W : World) (l : Nat) (o o' : Obj), w.heap.size ≤ l → W.heap[l]? = some o → o.isCells = false → Kp W (W.putObj l o'))
    (hb0 : Below w0.heap.size w0 w) (hps : 1 = ps.size) (I : List Int → World → Prop) (hI : AbideT w.heap.size t I) (h0 : I [] w) (a₁ : Int → Act)
    (hassign : ∀ (l : Nat) (x : Int) (W : World) (K : Act → World → Prop), K (a₁ x) W →
      assign.wpIn (F.inRound l) (n - 1 - 1) P (Exit.then K (fun _ _ _ => False)) { tmps := (ps.zip #[.int .i64 x]).foldl (fun t (p, v) => t.setIfInBounds p v) a.tmps, defers := [] } W)
    (hbody : ∀ (l : Nat) (pre : List Int) (x : Int) (W : World), I pre W → pre ++ [x] <+: xs → body.wpIn (F.inRound l) (n - 1 - 1) P (goesPost Kp I (pre ++ [x]) W) (a₁ x) W)
    (hdone : ∀ (D : Nat) (W : World), w.heap.size ≤ D → I xs W → W.heap[D]? = some (.deferred (some [])) → Q .normal { a with defers := { target := .collected D, args := #[] } :: a.defers } W) :
    (Code.rangeFunc g ps assign body).wpIn F n P Q a w := by
  refine wpIn_rangeFunc fun fn hfn => ?_
  rw [hro]
  obtain ⟨mk, hmk⟩ : ∃ mk : LoopState → Option Code → Loop, mk = fun st pe => { state := st, pending := pe, fn, tmps := a.tmps, params := ps, assign, body, defers := w.heap.size } := ⟨_, rfl⟩
  obtain ⟨V, hV⟩ : ∃ V, (w.alloc (.deferred (some []))).alloc (.loop (mk .ready none)) = V := ⟨_, rfl⟩
  have vl : V.heap[w.heap.size + 1]? = some (.loop (mk .ready none)) := by
    have := World.alloc_heap_new (w.alloc (.deferred (some []))) (.loop (mk .ready none))
    rw [World.size_alloc] at this
    rw [← hV]
    exact this
  have vd : V.heap[w.heap.size]? = some (.deferred (some [])) := by
    rw [← hV]
    exact (Below.heap_alloc _ _ _ (by simp)).trans (World.alloc_heap_new w _)
  have vw : Below w.heap.size w V := by
    rw [← hV]
    exact ((Below.refl _ w).alloc (Nat.le_refl _) _).alloc (by simp) _
  have vi : I [] V := by rw [← hV]; exact hI.alloc _ (hI.alloc _ h0)
  refine ⟨w.heap.size + 1, [{ target := .collected w.heap.size, args := #[] }], V, { target := .fn (.func gf) lb, args := #[.func (.yield (w.heap.size + 1)) #[] #[]] }, V, gf, #[.func (.yield (w.heap.size + 1)) #[] #[]] ++ lb, V, ?_, ?_, ?_, ?_, fun _ => h1, ?_⟩
  · rw [← hV, hmk]
    exact run_enterLoop_outer _ _ _ _ _
  · simp only [resolve, hg]
    simp [go_sem]
  · intro f' hf'
    simp [Target.leads] at hf'
    subst hf'
    exact hFg
  · simp [invoke, go_sem, eg]
  · refine (hseq (w.heap.size + 1) (fun pre W => I pre W ∧ W.heap[w.heap.size + 1]? = some (.loop (mk .ready none)) ∧ W.heap[w.heap.size]? = some (.deferred (some []))) V (hb0.trans (vw.mono hb0.size)) ?_ ?_ ⟨vi, vl, vd⟩).mono ?_
    · rintro s A B row ⟨hi, hl, hk⟩ hgr hr
      have fix : ∀ (j : Nat) (o : Obj), o.isCells = false → A.heap[j]? = some o → B.heap[j]? = some o := fun j o ho hj => by
        refine (hgr.block j (Array.getElem?_eq_some_iff.1 hj).1 ?_).trans hj
        intro e
        obtain ⟨-, cs, hc⟩ := hr j e.symm
        rw [hj] at hc
        injection hc with hc
        rw [hc] at ho
        cases ho
      refine ⟨hI s A B row hi hgr ?_, fix _ _ rfl hl, fix _ _ rfl hk⟩
      intro r e
      obtain ⟨hB, cs, hc⟩ := hr r e
      exact ⟨Nat.le_trans vw.size hB, _, hc, .inr ⟨cs, rfl⟩⟩
    · rintro pre x W ⟨hi, hl, hk⟩ hpre
      have wlt : w.heap.size + 1 < W.heap.size := (Array.getElem?_eq_some_iff.1 hl).1
      have hy := run_yield (P := P) (args := #[.int .i64 x]) hl (by rw [hmk]; exact hps)
      rw [hmk] at hy
      refine ⟨fn, _, assign, body, hy, roundIn_of_wpIn hfn (hassign _ x W _ ⟨_, run_beginRound hl (by rw [hmk]), ?_⟩)⟩
      have bl : (W.putObj (w.heap.size + 1) (.loop { mk .ready none with state := .busy })).heap[w.heap.size + 1]? = some (.loop { mk .ready none with state := .busy }) := World.putObj_heap_same wlt
      have bd : (W.putObj (w.heap.size + 1) (.loop { mk .ready none with state := .busy })).heap[w.heap.size]? = some (.deferred (some [])) := (World.putObj_heap_other (by omega)).trans hk
      have bk : Kp W (W.putObj (w.heap.size + 1) (.loop { mk .ready none with state := .busy })) := hKb _ _ _ _ (by omega) hl rfl
      refine wpIn_mono (hbody _ pre x _ (hI.putObj _ hi (by omega) hl rfl) hpre) ?_
      rintro e a3 W3 hp
      cases e with
      | normal =>
        obtain ⟨hk3, hkp3, hi3⟩ := hp
        have l3 := hk3.same _ _ bl rfl
        have r3 := run_endRound (P := P) none l3
        have d3 := hk3.same _ _ bd rfl
        have e3 : (W3.putObj (w.heap.size + 1) (.loop (mk .ready none))).heap[w.heap.size + 1]? = some (.loop (mk .ready none)) := World.putObj_heap_same (Array.getElem?_eq_some_iff.1 l3).1
        have f3 : (W3.putObj (w.heap.size + 1) (.loop (mk .ready none))).heap[w.heap.size]? = some (.deferred (some [])) := (World.putObj_heap_other (by omega)).trans d3
        have i3 : I (pre ++ [x]) (W3.putObj (w.heap.size + 1) (.loop (mk .ready none))) := hI.putObj _ hi3 (by omega) l3 rfl
        have k3 : Kp W (W3.putObj (w.heap.size + 1) (.loop (mk .ready none))) := hKt (hKt bk hkp3) (hKb _ _ _ _ (by omega) l3 rfl)
        rw [hmk] at r3 e3 f3 i3 k3 ⊢
        exact ⟨_, _, r3, rfl, ⟨i3, e3, f3⟩, k3⟩
      | ret => exact hp.elim
      | exit id => exact hp.elim
      | goto t => exact hp.elim
      | panic ch => exact hp.elim
      | outgrown => exact hp.elim
    · rintro e W2 ⟨⟨v, rfl⟩, hi, hl, hk⟩
      have r2 := run_endLoop (P := P) hl (by rw [hmk]; simp)
      rw [hmk] at r2
      refine ⟨none, _, r2, hdone _ _ (Nat.le_refl _) (hI.putObj _ hi (by omega) hl rfl) ?_⟩
      exact (World.putObj_heap_other (by omega)).trans hk
end
end Go.Proofs.YtnionejefpnfoaaDoor
