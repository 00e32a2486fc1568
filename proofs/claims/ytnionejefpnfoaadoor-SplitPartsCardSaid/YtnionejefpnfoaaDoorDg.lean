/- A draw whose word K is the first that is taken. In one text: Da, Db, Df, Dg -/
import Derived.Test.YtnionejefpnfoaaDoorPa
import Derived.RangeFuncBox
import Derived.RangeFuncLeaves
import Derived.Shelf.Abstract
import Derived.OwnWalkIn
import Derived.TacticsInMore
import Derived.LoopNIn
import Derived.LoopIn
import Derived.Maps.AppendAt
import Derived.Test.YtnionejefpnfoaaDoorPe
import Derived.Defers
import Derived.RangeFuncCalls
set_option linter.unusedSimpArgs false
set_option linter.unusedVariables false
/- A range over a function whose first round leaves by a return; draws whose first word is taken. Conditions as in the texts before. -/
namespace Go.Proofs.YtnionejefpnfoaaDoor
open Go.RowKit Go.Shelf
attribute [local go_sem] Oper.semAt_some

section
variable {F : Fence} {n : Nat} {P : Program}
/-- an iterator that hands out 'enc' first, and leaves where the round says 'no more' -/
def FirstGives (F : Fence) (n : Nat) (P : Program) (gf : Nat) (lb : Array Value) (enc : Array Value) (w : World) : Prop :=
  ∀ (l : Nat) (Jx : World → Prop) (W : World), Below w.heap.size w W →
    (∀ W2, Below W.heap.size W W2 → YieldAt F (n - 1) P l enc W2 fun E W' => E = .returned (.bool false) ∧ Jx W') →
    CallsIn F n P gf (#[.func (.yield l) #[] #[]] ++ lb) W fun E W' => (∃ v, E = .returned v) ∧ Jx W'
/-- the round leaves by a return -/
def firstPost (Ix : World → Prop) (W : World) : Exit → Act → World → Prop
  | .ret, _, W' => KeepsOthers W W' ∧ Ix W'
  | _, _, _ => False
/-- THE LOOP WHOSE FIRST ROUND RETURNS -/
theorem wpIn_rangeFirst {g : Operand} {ps : Array Tmp} {assign body : Code} {Q : Exit → Act → World → Prop} {a : Act} {w : World}
    (hro : F.round = none) (h1 : 1 ≤ n) {gf : Nat} {lb : Array Value} (hg : a.eval g = .func (.func gf) #[] lb) (hFg : F.fn gf) (eg : ∀ args w, (callFunc gf args).run P w = .ok (.enter gf args) w)
    {enc : Array Value} {w0 : World} (hseq : FirstGives F (n - 1) P gf lb enc w0) (hb0 : Below w0.heap.size w0 w) (hps : enc.size = ps.size)
    (a₁ : Act) (Ix : World → Prop) (hIx : OwnFrom w.heap.size fun (_ : Unit) W => Ix W)
    (hassign : ∀ (l : Nat) (W : World) (K : Act → World → Prop), K a₁ W →
      assign.wpIn (F.inRound l) (n - 1 - 1) P (Exit.then K (fun _ _ _ => False)) { tmps := (ps.zip enc).foldl (fun t (p, v) => t.setIfInBounds p v) a.tmps, defers := [] } W)
    (hbody : ∀ (l : Nat) (W : World), Below w.heap.size w W → body.wpIn (F.inRound l) (n - 1 - 1) P (firstPost Ix W) a₁ W)
    (hstop : ∀ (D : Nat) (W : World), w.heap.size ≤ D → Ix W → W.heap[D]? = some (.deferred (some [])) → Code.ret.wpIn F n P Q { a with defers := { target := .collected D, args := #[] } :: a.defers } W) :
    (Code.rangeFunc g ps assign body).wpIn F n P Q a w := by
  refine wpIn_rangeFunc fun fn hfn => ?_
  rw [hro]
  obtain ⟨mk, hmk⟩ : ∃ mk : LoopState → Option Code → Loop, mk = fun st pe => { state := st, pending := pe, fn, tmps := a.tmps, params := ps, assign, body, defers := w.heap.size } := ⟨_, rfl⟩
  obtain ⟨V, hV⟩ : ∃ V, (w.alloc (.deferred (some []))).alloc (.loop (mk .ready none)) = V := ⟨_, rfl⟩
  have vl : V.heap[w.heap.size + 1]? = some (.loop (mk .ready none)) := by
    have := World.alloc_heap_new (w.alloc (.deferred (some []))) (.loop (mk .ready none))
    rw [World.size_alloc] at this
    rw [← hV]
    exact this
  have vd : V.heap[w.heap.size]? = some (.deferred (some [])) := by
    rw [← hV]
    exact (Below.heap_alloc _ _ _ (by simp)).trans (World.alloc_heap_new w _)
  have vw : Below w.heap.size w V := by
    rw [← hV]
    exact ((Below.refl _ w).alloc (Nat.le_refl _) _).alloc (by simp) _
  refine ⟨w.heap.size + 1, [{ target := .collected w.heap.size, args := #[] }], V, { target := .fn (.func gf) lb, args := #[.func (.yield (w.heap.size + 1)) #[] #[]] }, V, gf, #[.func (.yield (w.heap.size + 1)) #[] #[]] ++ lb, V, ?_, ?_, ?_, ?_, fun _ => h1, ?_⟩
  · rw [← hV, hmk]
    exact run_enterLoop_outer _ _ _ _ _
  · simp only [resolve, hg]
    simp [go_sem]
  · intro f' hf'
    simp [Target.leads] at hf'
    subst hf'
    exact hFg
  · simp [invoke, go_sem, eg]
  · refine (hseq (w.heap.size + 1) (fun W => Ix W ∧ W.heap[w.heap.size + 1]? = some (.loop (mk .done (some .ret))) ∧ W.heap[w.heap.size]? = some (.deferred (some []))) V (hb0.trans (vw.mono hb0.size)) ?_).mono ?_
    · intro W hW
      have wl : W.heap[w.heap.size + 1]? = some (.loop (mk .ready none)) := (hW.block _ (Array.getElem?_eq_some_iff.1 vl).1).trans vl
      have wd : W.heap[w.heap.size]? = some (.deferred (some [])) := (hW.block _ (Array.getElem?_eq_some_iff.1 vd).1).trans vd
      have wlt : w.heap.size + 1 < W.heap.size := (Array.getElem?_eq_some_iff.1 wl).1
      have hy := run_yield (P := P) (args := enc) wl (by rw [hmk]; exact hps)
      rw [hmk] at hy
      refine ⟨fn, _, assign, body, hy, roundIn_of_wpIn hfn (hassign _ W _ ⟨_, run_beginRound wl (by rw [hmk]), ?_⟩)⟩
      have bl : (W.putObj (w.heap.size + 1) (.loop { mk .ready none with state := .busy })).heap[w.heap.size + 1]? = some (.loop { mk .ready none with state := .busy }) := World.putObj_heap_same wlt
      have bd : (W.putObj (w.heap.size + 1) (.loop { mk .ready none with state := .busy })).heap[w.heap.size]? = some (.deferred (some [])) := (World.putObj_heap_other (by omega)).trans wd
      have bw : Below w.heap.size w (W.putObj (w.heap.size + 1) (.loop { mk .ready none with state := .busy })) := (vw.trans (hW.mono vw.size)).trans (belowK_b (Nat.le_refl _) W _ _ _ (by omega) wl rfl rfl)
      refine wpIn_mono (hbody _ _ bw) ?_
      rintro e a3 W3 hp
      cases e with
      | ret =>
        obtain ⟨hk3, hi3⟩ := hp
        have l3 := hk3.same _ _ bl rfl
        have r3 := run_endRound (P := P) (some .ret) l3
        have d3 := hk3.same _ _ bd rfl
        have e3 : (W3.putObj (w.heap.size + 1) (.loop (mk .done (some .ret)))).heap[w.heap.size + 1]? = some (.loop (mk .done (some .ret))) := World.putObj_heap_same (Array.getElem?_eq_some_iff.1 l3).1
        have f3 : (W3.putObj (w.heap.size + 1) (.loop (mk .done (some .ret)))).heap[w.heap.size]? = some (.deferred (some [])) := (World.putObj_heap_other (by omega)).trans d3
        have i3 : Ix (W3.putObj (w.heap.size + 1) (.loop (mk .done (some .ret)))) := hIx.putObj (s := ()) _ hi3 (by omega) l3 rfl
        rw [hmk] at r3 e3 f3 i3 ⊢
        exact ⟨_, _, r3, rfl, i3, e3, f3⟩
      | normal => exact hp.elim
      | exit id => exact hp.elim
      | goto t => exact hp.elim
      | panic ch => exact hp.elim
      | outgrown => exact hp.elim
    · rintro e W2 ⟨⟨v, rfl⟩, hi, hl, hk⟩
      have r2 := run_endLoop (P := P) hl (by rw [hmk]; simp)
      rw [hmk] at r2
      refine ⟨some .ret, _, r2, hstop _ _ (Nat.le_refl _) (hIx.putObj (s := ()) _ hi (by omega) hl rfl) ?_⟩
      exact (World.putObj_heap_other (by omega)).trans hk
end
end Go.Proofs.YtnionejefpnfoaaDoor
/- The walks of package draw: below and Num, where the first word is taken. Conditions: the round constants lie in their variable; the seed and the path are short. -/
namespace Go.Proofs.YtnionejefpnfoaaDoor
open Go.RowKit Go.Shelf
attribute [local go_sem] Oper.semAt_some

/-- a draw's seed and path are short -/
def validB (s : ByteArray) (n : Nat) : Bool := decide (s.size ≤ 32 ∧ n ≤ 8)
set_option maxRecDepth 100000 in
set_option maxHeartbeats 2000000 in
theorem valid_any (s : ByteArray) (A : Option Addr) (n c : Nat) (w : World) (hs : s.size ≤ 1000000) (hn : n ≤ 1000000) :
    Calls Tryd.prog 34 #[.string s, .slice A n c] w fun E W' => E = .returned (.bool (validB s n)) ∧ W' = w := by
  by_cases h1 : (s.size : Int) ≤ 32
  · by_cases h2 : (n : Int) ≤ 8
    · rw [show validB s n = true from decide_eq_true ⟨by omega, by omega⟩]
      go_enter Tryd.func34, Tryd.ntmps34
      go_wp2_with fail
      go_ret
      exact ⟨rfl, rfl⟩
    · rw [show validB s n = false from decide_eq_false (by omega)]
      go_enter Tryd.func34, Tryd.ntmps34
      go_wp2_with fail
      go_ret
      exact ⟨rfl, rfl⟩
  · rw [show validB s n = false from decide_eq_false (by omega)]
    go_enter Tryd.func34, Tryd.ntmps34
    go_wp2_with fail
    go_ret
    exact ⟨rfl, rfl⟩
set_option maxRecDepth 100000 in
set_option maxHeartbeats 2000000 in
theorem tries_any (s : ByteArray) (A : Option Addr) (n c : Nat) (w : World) :
    Calls Tryd.prog 38 #[.string s, .slice A n c] w fun E W' => E = .returned (.func (.func 41) #[] #[.pointer (some ⟨w.heap.size, 0, none⟩), .pointer (some ⟨w.heap.size + 1, 0, none⟩)]) ∧ W' = (w.alloc (.cells #[.string s] 9)).alloc (.cells #[.slice A n c] 22) := by
  go_enter Tryd.func38, Tryd.ntmps38
  go_wp2
  go_ret
  exact ⟨rfl, rfl⟩
set_option maxRecDepth 100000 in
set_option maxHeartbeats 2000000 in
theorem tries_first (fu : Nat) (hfu : 2 ≤ fu) (gs gp : Nat) {s : ByteArray} {A : Option Addr} {n c : Nat} {l : List Int} {wS : World} (h : Net s A n l wS) (w : World)
    (h1 : Blk w gs 9 #[.string s]) (h2 : Blk w gp 22 #[.slice A n c]) (hb : Below wS.heap.size wS w) :
    FirstGives Fence.wide fu Tryd.prog 41 #[.pointer (some ⟨gs, 0, none⟩), .pointer (some ⟨gp, 0, none⟩)] #[.int .i64 (wordN s l 0 : Int)] w := fun lo Jx W hW hY => by
  have hB := hb.trans (hW.mono hb.size)
  have k1 := h1.below hW h1.lt
  have k2 := h2.below hW h2.lt
  have e1 : W.cell? ⟨gs, 0, none⟩ = some (.string s) := k1.at_ rfl
  have e2 : W.cell? ⟨gp, 0, none⟩ = some (.slice A n c) := k2.at_ rfl
  have hn := h.below hB
  have hw := word_any s A n c l 0 W hn.reads hn.nums ⟨by omega, by omega⟩ hn.short hn.text hn.consts hn.pos
  generalize wordN s l 0 = x at *
  have HW := Lib.hid hw
  clear hw
  refine callsIn_of_wp Tryd.func41 rfl trivial ?_ rfl
  simp only [Tryd.ntmps41, List.size_toArray, List.length_cons, List.length_nil, Nat.reduceAdd, Nat.reduceSub, Array.replicate_succ, Array.replicate_zero, List.push_toArray, List.append_toArray, List.nil_append, List.cons_append]
  gi_wp2
  gi_loopw [4] (fun i wr => i = .int .i64 0 ∧ wr = W) (fun _ _ => 0)
  case atStart => exact ⟨rfl, rfl⟩
  case round =>
    obtain ⟨rfl, rfl⟩ := hrel
    gi_wp2
    refine ⟨trivial, fun _ => by omega, ?_⟩
    refine (callsIn_wide.2 HW.out).mono ?_
    rintro E w2 ⟨rfl, b2⟩
    obtain ⟨fn, tmps, assign, body, hy, hR⟩ := hY w2 b2
    gi_wp2
    refine ⟨fun _ => by omega, ?_⟩
    refine hR.mono ?_
    rintro E W3 ⟨rfl, hJ3⟩
    gi_wp2
    go_end0
    exact ⟨⟨_, rfl⟩, hJ3⟩
set_option maxRecDepth 100000 in
set_option maxHeartbeats 4000000 in
theorem below_first {s : ByteArray} {A : Option Addr} {n c : Nat} {l : List Int} {w : World} (h : Net s A n l w) (N : Nat) (hN : 1 ≤ N) (hN2 : N ≤ 1099511627776) (hw : wordN s l 0 < 281474976710656 / N * N) :
    Calls Tryd.prog 35 #[.string s, .slice A n c, .int .i64 (N : Int)] w fun E W' => E = .returned (.int .i64 ((wordN s l 0 % N : Nat) : Int)) ∧ Below w.heap.size w W' := by
  have HF := Lib.hid (fun fu hfu gs gp W => tries_first fu hfu gs gp (c := c) h W)
  have HT := Lib.hid (fun W => tries_any s A n c W)
  generalize wordN s l 0 = x at *
  refine (callsIn_wide (n := 6)).1 ?_
  refine callsIn_of_wp_marks Tryd.func35 rfl trivial ?_ rfl
  simp only [Tryd.ntmps35, List.size_toArray, List.length_cons, List.length_nil, Nat.reduceAdd, Nat.reduceSub, Array.replicate_succ, Array.replicate_zero, List.push_toArray, List.append_toArray, List.nil_append, List.cons_append]
  gi_wp2
  refine ⟨trivial, ?_⟩
  refine (callsIn_wide.2 (HT.out _)).mono ?_
  rintro E w1 ⟨rfl, hw1⟩
  gi_wp2
  have sz1 : (((w.alloc (.cells #[.int .i64 (N : Int)] 3)).alloc (.cells #[.int .i64 0] 3)).alloc (.cells #[.string s] 9)).heap.size = w.heap.size + 1 + 1 + 1 := by simp
  have sz0 : ((w.alloc (.cells #[.int .i64 (N : Int)] 3)).alloc (.cells #[.int .i64 0] 3)).heap.size = w.heap.size + 1 + 1 := by simp
  have k1 : Blk ((((w.alloc (.cells #[.int .i64 (N : Int)] 3)).alloc (.cells #[.int .i64 0] 3)).alloc (.cells #[.string s] 9)).alloc (.cells #[.slice A n c] 22)) w.heap.size 3 #[.int .i64 (N : Int)] := (((Blk.new w 3 _).alloc _).alloc _).alloc _
  have k2 : Blk ((((w.alloc (.cells #[.int .i64 (N : Int)] 3)).alloc (.cells #[.int .i64 0] 3)).alloc (.cells #[.string s] 9)).alloc (.cells #[.slice A n c] 22)) (w.heap.size + 1) 3 #[.int .i64 0] := ((Blk.new' (by simp)).alloc _).alloc _
  have k3 : Blk ((((w.alloc (.cells #[.int .i64 (N : Int)] 3)).alloc (.cells #[.int .i64 0] 3)).alloc (.cells #[.string s] 9)).alloc (.cells #[.slice A n c] 22)) (w.heap.size + 1 + 1) 9 #[.string s] := (Blk.new' sz0.symm).alloc _
  have k4 : Blk ((((w.alloc (.cells #[.int .i64 (N : Int)] 3)).alloc (.cells #[.int .i64 0] 3)).alloc (.cells #[.string s] 9)).alloc (.cells #[.slice A n c] 22)) (w.heap.size + 1 + 1 + 1) 22 #[.slice A n c] := Blk.new' sz1.symm
  have kb : Below w.heap.size w ((((w.alloc (.cells #[.int .i64 (N : Int)] 3)).alloc (.cells #[.int .i64 0] 3)).alloc (.cells #[.string s] 9)).alloc (.cells #[.slice A n c] 22)) :=
    ((((Below.refl _ w).alloc (Nat.le_refl _) _).alloc (by simp) _).alloc (by rw [sz0]; omega) _).alloc (by rw [sz1]; omega) _
  generalize (((w.alloc (.cells #[.int .i64 (N : Int)] 3)).alloc (.cells #[.int .i64 0] 3)).alloc (.cells #[.string s] 9)).alloc (.cells #[.slice A n c] 22) = wF at *
  clear sz0 sz1
  have hst := HF.out (6 - 1) (by omega) _ _ wF k3 k4 kb
  refine wpIn_rangeFirst rfl (by omega) (gf := 41) (lb := #[.pointer (some ⟨w.heap.size + 1 + 1, 0, none⟩), .pointer (some ⟨w.heap.size + 1 + 1 + 1, 0, none⟩)]) rfl trivial (enters_of Tryd.func41 (by kernel_rfl) rfl)
    hst (Below.refl _ _) rfl
    { tmps := #[.string s, .slice A n c, .int .i64 (N : Int), undef, undef, .pointer (some ⟨w.heap.size, 0, none⟩), .pointer (some ⟨w.heap.size + 1, 0, none⟩), .int .i64 (x : Int), .string s, .slice A n c,
        .func (.func 41) #[] #[.pointer (some ⟨w.heap.size + 1 + 1, 0, none⟩), .pointer (some ⟨w.heap.size + 1 + 1 + 1, 0, none⟩)], .int .i64 (x : Int), undef, undef, undef, undef, undef, undef, undef, undef, undef], defers := [] }
    (fun W => Blk W (w.heap.size + 1) 3 #[.int .i64 ((x % N : Nat) : Int)] ∧ Below w.heap.size w W)
    (OwnFrom.and (fun _ W W' row hs hg hr => (grownBy_keeps_cells hg (fun r e => (hr r e).2) hs rfl).trans hs) (ownFrom_below (Nat.le_refl _) kb.size))
    ?assign ?body ?stop
  case assign =>
    intro l W K hK
    gi_wp2
    exact hK
  case body =>
    intro l W hB
    have hb := kb.trans (hB.mono kb.size)
    have m1 := k1.below hB k1.lt
    have m2 := k2.below hB k2.lt
    have c1 : W.cell? ⟨w.heap.size, 0, none⟩ = some (.int .i64 (N : Int)) := m1.at_ rfl
    have c2 : W.cell? ⟨w.heap.size + 1, 0, none⟩ = some (.int .i64 0) := m2.at_ rfl
    have f2 := m2.frozen 0
    clear k1 k2 k3 k4 hst kb hB hw1
    have hNz : ¬ N = 0 := by omega
    have hq : ((281474976710656 : Int).tdiv (N : Int)) = ((281474976710656 / N : Nat) : Int) := by
      rw [Int.tdiv_eq_ediv_of_nonneg (by omega)]
      simp
    have hq1 : IntKind.i64.wrap ((281474976710656 / N : Nat) : Int) = ((281474976710656 / N : Nat) : Int) := by
      have h1 : 281474976710656 / N ≤ 281474976710656 := Nat.div_le_self _ _
      generalize 281474976710656 / N = z at *
      simp [IntKind.wrap, IntKind.signed, IntKind.bits]
      omega
    have hq2 : IntKind.i64.wrap (((281474976710656 / N : Nat) : Int) * (N : Int)) = ((281474976710656 / N * N : Nat) : Int) := by
      have h1 : 281474976710656 / N * N ≤ 281474976710656 := Nat.div_mul_le_self _ _
      rw [← Int.natCast_mul]
      generalize 281474976710656 / N * N = z at *
      simp [IntKind.wrap, IntKind.signed, IntKind.bits]
      omega
    have hlt : (x : Int) < ((281474976710656 / N * N : Nat) : Int) := by omega
    have hm : (x : Int).tmod (N : Int) = ((x % N : Nat) : Int) := by
      rw [Int.tmod_eq_emod_of_nonneg (by omega)]
      simp
    have hm2 : IntKind.i64.wrap ((x % N : Nat) : Int) = ((x % N : Nat) : Int) := by
      have := Nat.mod_lt x (y := N) (by omega)
      generalize x % N = z at *
      simp [IntKind.wrap, IntKind.signed, IntKind.bits]
      omega
    generalize hz1 : 281474976710656 / N * N = z1 at *
    generalize hz2 : 281474976710656 / N = z2 at *
    generalize hz3 : x % N = z3 at *
    clear hz1 hz2 hz3 hw
    gi_wp2
    gi_region
    all_goals
      gi_wp2
      exact ⟨(KeepsOthers.setCell W _ _).trans (KeepsOthers.drew _), (m2.set_ 0 (.int .i64 (z3 : Int))).drew, (hb.setCell (Nat.le_succ _) _).drew⟩
  case stop =>
    rintro D W hD ⟨hk, hB⟩ hK
    have hne : w.heap.size + 1 ≠ D := by have := k2.lt; omega
    have hc : (W.putObj D (.deferred none)).cell? ⟨w.heap.size + 1, 0, none⟩ = some (.int .i64 ((x % N : Nat) : Int)) := (World.cell?_of_block (World.putObj_heap_other hne)).trans (hk.at_ rfl)
    gi_wp2
    refine ⟨by simp, .inl ⟨_, _, rfl, run_takeDeferred hK, ?_⟩⟩
    refine ⟨.int .i64 ((x % N : Nat) : Int), ?_, rfl, hB.trans (belowK_b (w := wF) kb.size W D _ _ hD hK rfl rfl)⟩
    simp [results, Tryd.results35, go_sem, hc]

/-- the error that 'checked' lays -/
def errV (s : ByteArray) (n : Nat) (fits : Bool) : Int := if validB s n then (if fits then 0 else 5) else 1
set_option maxRecDepth 100000 in
set_option maxHeartbeats 2000000 in
theorem checked_any (s : ByteArray) (A : Option Addr) (n c : Nat) (fits : Bool) (g : Nat) (u : FrameMode) (w : World) (hs : s.size ≤ 1000000) (hn : n ≤ 1000000) (he : Blk w g 30 #[.int .i64 0]) :
    CallsD Tryd.prog 33 #[.string s, .slice A n c, .bool fits, .pointer (some ⟨g, 0, none⟩)] u w fun E u' W' => u' = u ∧ E = .returned (.tuple #[]) ∧ Blk W' g 30 #[.int .i64 (errV s n fits)] ∧ ∀ B, B ≤ g → Below B w W' := by
  have hv := valid_any s A n c w hs hn
  have hf := he.frozen 0
  have hc : w.cell? ⟨g, 0, none⟩ = some (.int .i64 0) := he.at_ rfl
  unfold errV
  generalize validB s n = vb at *
  cases vb
  · go_enter_d Tryd.func33, Tryd.ntmps33
    go_wp2_with fail
    refine hv.mono ?_
    rintro E w1 ⟨rfl, rfl⟩
    go_wp2_with fail
    go_end0
    exact ⟨rfl, he.set_ 0 _, fun B hB => (Below.refl _ _).setCell hB _⟩
  · cases fits
    · go_enter_d Tryd.func33, Tryd.ntmps33
      go_wp2_with fail
      refine hv.mono ?_
      rintro E w1 ⟨rfl, rfl⟩
      go_wp2_with fail
      go_end0
      exact ⟨rfl, he.set_ 0 _, fun B hB => (Below.refl _ _).setCell hB _⟩
    · go_enter_d Tryd.func33, Tryd.ntmps33
      go_wp2_with fail
      refine hv.mono ?_
      rintro E w1 ⟨rfl, rfl⟩
      go_wp2_with fail
      go_end0
      exact ⟨rfl, he, fun B hB => Below.refl _ _⟩
end Go.Proofs.YtnionejefpnfoaaDoor
/- A range over an endless iterator that is left by a return in round K, the rounds before it going on; a draw whose word K is the first that is taken. Conditions as the theorems state. -/
namespace Go.Proofs.YtnionejefpnfoaaDoor
open Go.RowKit Go.Shelf
attribute [local go_sem] Oper.semAt_some

section
variable {F : Fence} {n : Nat} {P : Program}
/-- an iterator that hands out enc 0, enc 1, .., as long as the round goes on -/
def GivesTo (F : Fence) (n : Nat) (P : Program) (gf : Nat) (lb : Array Value) (enc : Nat → Array Value) (K : Nat) (w : World) : Prop :=
  ∀ (l : Nat) (J : Nat → World → Prop) (Jx : World → Prop) (W : World), Below w.heap.size w W →
    (∀ j A B, J j A → Below A.heap.size A B → J j B) →
    (∀ j W1, j < K → J j W1 → Below w.heap.size w W1 → YieldAt F (n - 1) P l (enc j) W1 fun E W' => E = .returned (.bool true) ∧ J (j + 1) W' ∧ Below w.heap.size w W') →
    (∀ W1, J K W1 → Below w.heap.size w W1 → YieldAt F (n - 1) P l (enc K) W1 fun E W' => E = .returned (.bool false) ∧ Jx W') →
    J 0 W → CallsIn F n P gf (#[.func (.yield l) #[] #[]] ++ lb) W fun E W' => (∃ v, E = .returned v) ∧ Jx W'
/-- the round goes on and writes nothing old -/
def onPost (w W : World) : Exit → Act → World → Prop
  | .normal, _, W' => KeepsOthers W W' ∧ Below w.heap.size w W'
  | _, _, _ => False
/-- THE LOOP LEFT IN ROUND K -/
theorem wpIn_rangeTo {g : Operand} {ps : Array Tmp} {assign body : Code} {Q : Exit → Act → World → Prop} {a : Act} {w : World}
    (hro : F.round = none) (h1 : 1 ≤ n) {gf : Nat} {lb : Array Value} (hg : a.eval g = .func (.func gf) #[] lb) (hFg : F.fn gf) (eg : ∀ args w, (callFunc gf args).run P w = .ok (.enter gf args) w)
    {enc : Nat → Array Value} {K : Nat} {w0 : World} (hseq : GivesTo F (n - 1) P gf lb enc K w0) (hb0 : Below w0.heap.size w0 w) (hps : ∀ j, (enc j).size = ps.size)
    (a₁ : Nat → Act) (Ix : World → Prop) (hIx : OwnFrom w.heap.size fun (_ : Unit) W => Ix W)
    (hassign : ∀ (l j : Nat) (W : World) (K : Act → World → Prop), K (a₁ j) W →
      assign.wpIn (F.inRound l) (n - 1 - 1) P (Exit.then K (fun _ _ _ => False)) { tmps := (ps.zip (enc j)).foldl (fun t (p, v) => t.setIfInBounds p v) a.tmps, defers := [] } W)
    (hon : ∀ (l j : Nat) (W : World), j < K → Below w.heap.size w W → body.wpIn (F.inRound l) (n - 1 - 1) P (onPost w W) (a₁ j) W)
    (hbody : ∀ (l : Nat) (W : World), Below w.heap.size w W → body.wpIn (F.inRound l) (n - 1 - 1) P (firstPost Ix W) (a₁ K) W)
    (hstop : ∀ (D : Nat) (W : World), w.heap.size ≤ D → Ix W → W.heap[D]? = some (.deferred (some [])) → Code.ret.wpIn F n P Q { a with defers := { target := .collected D, args := #[] } :: a.defers } W) :
    (Code.rangeFunc g ps assign body).wpIn F n P Q a w := by
  refine wpIn_rangeFunc fun fn hfn => ?_
  rw [hro]
  obtain ⟨mk, hmk⟩ : ∃ mk : LoopState → Option Code → Loop, mk = fun st pe => { state := st, pending := pe, fn, tmps := a.tmps, params := ps, assign, body, defers := w.heap.size } := ⟨_, rfl⟩
  obtain ⟨V, hV⟩ : ∃ V, (w.alloc (.deferred (some []))).alloc (.loop (mk .ready none)) = V := ⟨_, rfl⟩
  have vl : V.heap[w.heap.size + 1]? = some (.loop (mk .ready none)) := by
    have := World.alloc_heap_new (w.alloc (.deferred (some []))) (.loop (mk .ready none))
    rw [World.size_alloc] at this
    rw [← hV]
    exact this
  have vd : V.heap[w.heap.size]? = some (.deferred (some [])) := by
    rw [← hV]
    exact (Below.heap_alloc _ _ _ (by simp)).trans (World.alloc_heap_new w _)
  have vw : Below w.heap.size w V := by
    rw [← hV]
    exact ((Below.refl _ w).alloc (Nat.le_refl _) _).alloc (by simp) _
  refine ⟨w.heap.size + 1, [{ target := .collected w.heap.size, args := #[] }], V, { target := .fn (.func gf) lb, args := #[.func (.yield (w.heap.size + 1)) #[] #[]] }, V, gf, #[.func (.yield (w.heap.size + 1)) #[] #[]] ++ lb, V, ?_, ?_, ?_, ?_, fun _ => h1, ?_⟩
  · rw [← hV, hmk]
    exact run_enterLoop_outer _ _ _ _ _
  · simp only [resolve, hg]
    simp [go_sem]
  · intro f' hf'
    simp [Target.leads] at hf'
    subst hf'
    exact hFg
  · simp [invoke, go_sem, eg]
  · refine (hseq (w.heap.size + 1) (fun _ W => Below w.heap.size w W ∧ W.heap[w.heap.size + 1]? = some (.loop (mk .ready none)) ∧ W.heap[w.heap.size]? = some (.deferred (some []))) (fun W => Ix W ∧ W.heap[w.heap.size + 1]? = some (.loop (mk .done (some .ret))) ∧ W.heap[w.heap.size]? = some (.deferred (some []))) V (hb0.trans (vw.mono hb0.size)) ?_ ?_ ?_ ⟨vw, vl, vd⟩).mono ?_
    · rintro _ A B ⟨h3, h4, h5⟩ hb
      exact ⟨below_next h3 hb, (hb.block _ (Array.getElem?_eq_some_iff.1 h4).1).trans h4, (hb.block _ (Array.getElem?_eq_some_iff.1 h5).1).trans h5⟩
    · rintro j W hj ⟨hbw, wl, wd⟩ hw0
      have wlt : w.heap.size + 1 < W.heap.size := (Array.getElem?_eq_some_iff.1 wl).1
      have hy := run_yield (P := P) (args := enc j) wl (by rw [hmk]; exact hps j)
      rw [hmk] at hy
      refine ⟨fn, _, assign, body, hy, roundIn_of_wpIn hfn (hassign _ j W _ ⟨_, run_beginRound wl (by rw [hmk]), ?_⟩)⟩
      have bl : (W.putObj (w.heap.size + 1) (.loop { mk .ready none with state := .busy })).heap[w.heap.size + 1]? = some (.loop { mk .ready none with state := .busy }) := World.putObj_heap_same wlt
      have bd : (W.putObj (w.heap.size + 1) (.loop { mk .ready none with state := .busy })).heap[w.heap.size]? = some (.deferred (some [])) := (World.putObj_heap_other (by omega)).trans wd
      have bw : Below w.heap.size w (W.putObj (w.heap.size + 1) (.loop { mk .ready none with state := .busy })) := hbw.trans (belowK_b (Nat.le_refl _) W _ _ _ (by omega) wl rfl rfl)
      refine wpIn_mono (hon _ j _ hj bw) ?_
      rintro e a3 W3 hp
      cases e with
      | normal =>
        obtain ⟨hk3, hb3⟩ := hp
        have l3 := hk3.same _ _ bl rfl
        have r3 := run_endRound (P := P) none l3
        have d3 := hk3.same _ _ bd rfl
        have e3 : (W3.putObj (w.heap.size + 1) (.loop (mk .ready none))).heap[w.heap.size + 1]? = some (.loop (mk .ready none)) := World.putObj_heap_same (Array.getElem?_eq_some_iff.1 l3).1
        have f3 : (W3.putObj (w.heap.size + 1) (.loop (mk .ready none))).heap[w.heap.size]? = some (.deferred (some [])) := (World.putObj_heap_other (by omega)).trans d3
        have b3 : Below w.heap.size w (W3.putObj (w.heap.size + 1) (.loop (mk .ready none))) := hb3.trans (belowK_b (Nat.le_refl _) W3 _ _ _ (by omega) l3 rfl rfl)
        have c3 : Below w0.heap.size w0 (W3.putObj (w.heap.size + 1) (.loop (mk .ready none))) := hb0.trans (b3.mono hb0.size)
        rw [hmk] at r3 e3 f3 b3 c3 ⊢
        exact ⟨_, _, r3, rfl, ⟨b3, e3, f3⟩, c3⟩
      | ret => exact hp.elim
      | exit id => exact hp.elim
      | goto t => exact hp.elim
      | panic ch => exact hp.elim
      | outgrown => exact hp.elim
    · rintro W ⟨hbw, wl, wd⟩ hw0
      have wlt : w.heap.size + 1 < W.heap.size := (Array.getElem?_eq_some_iff.1 wl).1
      have hy := run_yield (P := P) (args := enc K) wl (by rw [hmk]; exact hps K)
      rw [hmk] at hy
      refine ⟨fn, _, assign, body, hy, roundIn_of_wpIn hfn (hassign _ K W _ ⟨_, run_beginRound wl (by rw [hmk]), ?_⟩)⟩
      have bl : (W.putObj (w.heap.size + 1) (.loop { mk .ready none with state := .busy })).heap[w.heap.size + 1]? = some (.loop { mk .ready none with state := .busy }) := World.putObj_heap_same wlt
      have bd : (W.putObj (w.heap.size + 1) (.loop { mk .ready none with state := .busy })).heap[w.heap.size]? = some (.deferred (some [])) := (World.putObj_heap_other (by omega)).trans wd
      have bw : Below w.heap.size w (W.putObj (w.heap.size + 1) (.loop { mk .ready none with state := .busy })) := hbw.trans (belowK_b (Nat.le_refl _) W _ _ _ (by omega) wl rfl rfl)
      refine wpIn_mono (hbody _ _ bw) ?_
      rintro e a3 W3 hp
      cases e with
      | ret =>
        obtain ⟨hk3, hi3⟩ := hp
        have l3 := hk3.same _ _ bl rfl
        have r3 := run_endRound (P := P) (some .ret) l3
        have d3 := hk3.same _ _ bd rfl
        have e3 : (W3.putObj (w.heap.size + 1) (.loop (mk .done (some .ret)))).heap[w.heap.size + 1]? = some (.loop (mk .done (some .ret))) := World.putObj_heap_same (Array.getElem?_eq_some_iff.1 l3).1
        have f3 : (W3.putObj (w.heap.size + 1) (.loop (mk .done (some .ret)))).heap[w.heap.size]? = some (.deferred (some [])) := (World.putObj_heap_other (by omega)).trans d3
        have i3 : Ix (W3.putObj (w.heap.size + 1) (.loop (mk .done (some .ret)))) := hIx.putObj (s := ()) _ hi3 (by omega) l3 rfl
        rw [hmk] at r3 e3 f3 i3 ⊢
        exact ⟨_, _, r3, rfl, i3, e3, f3⟩
      | normal => exact hp.elim
      | exit id => exact hp.elim
      | goto t => exact hp.elim
      | panic ch => exact hp.elim
      | outgrown => exact hp.elim
    · rintro e W2 ⟨⟨v, rfl⟩, hi, hl, hk⟩
      have r2 := run_endLoop (P := P) hl (by rw [hmk]; simp)
      rw [hmk] at r2
      refine ⟨some .ret, _, r2, hstop _ _ (Nat.le_refl _) (hIx.putObj (s := ()) _ hi (by omega) hl rfl) ?_⟩
      exact (World.putObj_heap_other (by omega)).trans hk
end
set_option maxRecDepth 100000 in
set_option maxHeartbeats 4000000 in
theorem tries_to (fu : Nat) (hfu : 2 ≤ fu) (gs gp : Nat) {s : ByteArray} {A : Option Addr} {n c : Nat} {l : List Int} {wS : World} (h : Net s A n l wS) (w : World)
    (h1 : Blk w gs 9 #[.string s]) (h2 : Blk w gp 22 #[.slice A n c]) (hb : Below wS.heap.size wS w) (K : Nat) (hK : K ≤ 1000000) :
    GivesTo Fence.wide fu Tryd.prog 41 #[.pointer (some ⟨gs, 0, none⟩), .pointer (some ⟨gp, 0, none⟩)] (fun j => #[.int .i64 (wordN s l (j : Int) : Int)]) K w := fun lo J Jx W hW hJ hgo hend hj0 => by
  have HJ := Lib.hid hJ
  have HGO := Lib.hid hgo
  have HEND := Lib.hid hend
  clear hJ hgo hend
  refine callsIn_of_wp Tryd.func41 rfl trivial ?_ rfl
  simp only [Tryd.ntmps41, List.size_toArray, List.length_cons, List.length_nil, Nat.reduceAdd, Nat.reduceSub, Array.replicate_succ, Array.replicate_zero, List.push_toArray, List.append_toArray, List.nil_append, List.cons_append]
  gi_wp2
  gi_loopw [4] (fun i wr => ∃ j : Nat, j ≤ K ∧ i = .int .i64 (j : Int) ∧ J j wr ∧ Below w.heap.size w wr) (fun i _ => K - (intOf i).toNat)
  case atStart => exact ⟨0, by omega, rfl, hj0, hW⟩
  case round =>
    clear hj0 hW
    obtain ⟨j, hj, rfl, hJj, hW⟩ := hrel
    have k1 := h1.below hW h1.lt
    have k2 := h2.below hW h2.lt
    have e1 : wr.cell? ⟨gs, 0, none⟩ = some (.string s) := k1.at_ rfl
    have e2 : wr.cell? ⟨gp, 0, none⟩ = some (.slice A n c) := k2.at_ rfl
    have hn := h.below (hb.trans (hW.mono hb.size))
    have hw := word_any s A n c l (j : Int) wr hn.reads hn.nums ⟨by omega, by omega⟩ hn.short hn.text hn.consts hn.pos
    have HG := Lib.hid (fun hlt W1 h3 h4 => HGO.out j W1 hlt h3 h4)
    have HE := Lib.hid (fun (e : j = K) W1 (h3 : J j W1) h4 => HEND.out W1 (e ▸ h3) h4)
    by_cases hlt : j < K
    · generalize wordN s l (j : Int) = x at *
      have HW := Lib.hid hw
      clear hw hn k1 k2
      gi_wp2
      refine ⟨trivial, fun _ => by omega, ?_⟩
      refine (callsIn_wide.2 HW.out).mono ?_
      rintro E w2 ⟨rfl, b2⟩
      obtain ⟨fn, tmps, assign, body, hy, hR⟩ := HG.out hlt w2 (HJ.out _ _ _ hJj b2) (below_next hW b2)
      gi_wp2
      refine ⟨fun _ => by omega, ?_⟩
      refine hR.mono ?_
      rintro E W3 ⟨rfl, hJ3, hW3⟩
      gi_wp2
      refine ⟨⟨j + 1, by omega, by go_num, hJ3, hW3⟩, ?_⟩
      simp only [intOf]
      omega
    · have hjK : j = K := by omega
      subst hjK
      generalize wordN s l (j : Int) = x at *
      have HW := Lib.hid hw
      clear hw hn k1 k2
      gi_wp2
      refine ⟨trivial, fun _ => by omega, ?_⟩
      refine (callsIn_wide.2 HW.out).mono ?_
      rintro E w2 ⟨rfl, b2⟩
      obtain ⟨fn, tmps, assign, body, hy, hR⟩ := HE.out (by trivial) w2 (HJ.out _ _ _ hJj b2) (below_next hW b2)
      gi_wp2
      refine ⟨fun _ => by omega, ?_⟩
      refine hR.mono ?_
      rintro E W3 ⟨rfl, hJ3⟩
      gi_wp2
      go_end0
      exact ⟨⟨_, rfl⟩, hJ3⟩
end Go.Proofs.YtnionejefpnfoaaDoor
/- A draw whose word K is the first that is taken. Conditions as the theorems state. -/
namespace Go.Proofs.YtnionejefpnfoaaDoor
open Go.RowKit Go.Shelf
attribute [local go_sem] Oper.semAt_some

set_option maxRecDepth 100000 in
set_option maxHeartbeats 4000000 in
theorem below_k {s : ByteArray} {A : Option Addr} {n c : Nat} {l : List Int} {w : World} (h : Net s A n l w) (N : Nat) (hN : 1 ≤ N) (hN2 : N ≤ 1099511627776) (K : Nat) (hK : K ≤ 1000000)
    (hno : ∀ j : Nat, j < K → 281474976710656 / N * N ≤ wordN s l (j : Int)) (hw : wordN s l (K : Int) < 281474976710656 / N * N) :
    Calls Tryd.prog 35 #[.string s, .slice A n c, .int .i64 (N : Int)] w fun E W' => E = .returned (.int .i64 ((wordN s l (K : Int) % N : Nat) : Int)) ∧ Below w.heap.size w W' := by
  have HF := Lib.hid (fun fu hfu gs gp W h1 h2 h3 => tries_to fu hfu gs gp (c := c) h W h1 h2 h3 K hK)
  have HT := Lib.hid (fun W => tries_any s A n c W)
  obtain ⟨f, hf⟩ : ∃ f : Nat → Nat, f = fun j : Nat => wordN s l (j : Int) := ⟨_, rfl⟩
  have hno' : ∀ j, j < K → 281474976710656 / N * N ≤ f j := by rw [hf]; exact hno
  have hw' : f K < 281474976710656 / N * N := by rw [hf]; exact hw
  rw [show wordN s l (K : Int) = f K from by rw [hf]]
  have HF : Hid (∀ fu, 2 ≤ fu → ∀ gs gp W, Blk W gs 9 #[.string s] → Blk W gp 22 #[.slice A n c] → Below w.heap.size w W → GivesTo Fence.wide fu Tryd.prog 41 #[.pointer (some ⟨gs, 0, none⟩), .pointer (some ⟨gp, 0, none⟩)] (fun j => #[.int .i64 (f j : Int)]) K W) := by rw [hf]; exact HF
  clear hno hw hf
  have HNO := Lib.hid hno'
  clear hno'
  refine (callsIn_wide (n := 6)).1 ?_
  refine callsIn_of_wp_marks Tryd.func35 rfl trivial ?_ rfl
  simp only [Tryd.ntmps35, List.size_toArray, List.length_cons, List.length_nil, Nat.reduceAdd, Nat.reduceSub, Array.replicate_succ, Array.replicate_zero, List.push_toArray, List.append_toArray, List.nil_append, List.cons_append]
  gi_wp2
  refine ⟨trivial, ?_⟩
  refine (callsIn_wide.2 (HT.out _)).mono ?_
  rintro E w1 ⟨rfl, hw1⟩
  gi_wp2
  have sz1 : (((w.alloc (.cells #[.int .i64 (N : Int)] 3)).alloc (.cells #[.int .i64 0] 3)).alloc (.cells #[.string s] 9)).heap.size = w.heap.size + 1 + 1 + 1 := by simp
  have sz0 : ((w.alloc (.cells #[.int .i64 (N : Int)] 3)).alloc (.cells #[.int .i64 0] 3)).heap.size = w.heap.size + 1 + 1 := by simp
  have k1 : Blk ((((w.alloc (.cells #[.int .i64 (N : Int)] 3)).alloc (.cells #[.int .i64 0] 3)).alloc (.cells #[.string s] 9)).alloc (.cells #[.slice A n c] 22)) w.heap.size 3 #[.int .i64 (N : Int)] := (((Blk.new w 3 _).alloc _).alloc _).alloc _
  have k2 : Blk ((((w.alloc (.cells #[.int .i64 (N : Int)] 3)).alloc (.cells #[.int .i64 0] 3)).alloc (.cells #[.string s] 9)).alloc (.cells #[.slice A n c] 22)) (w.heap.size + 1) 3 #[.int .i64 0] := ((Blk.new' (by simp)).alloc _).alloc _
  have k3 : Blk ((((w.alloc (.cells #[.int .i64 (N : Int)] 3)).alloc (.cells #[.int .i64 0] 3)).alloc (.cells #[.string s] 9)).alloc (.cells #[.slice A n c] 22)) (w.heap.size + 1 + 1) 9 #[.string s] := (Blk.new' sz0.symm).alloc _
  have k4 : Blk ((((w.alloc (.cells #[.int .i64 (N : Int)] 3)).alloc (.cells #[.int .i64 0] 3)).alloc (.cells #[.string s] 9)).alloc (.cells #[.slice A n c] 22)) (w.heap.size + 1 + 1 + 1) 22 #[.slice A n c] := Blk.new' sz1.symm
  have kb : Below w.heap.size w ((((w.alloc (.cells #[.int .i64 (N : Int)] 3)).alloc (.cells #[.int .i64 0] 3)).alloc (.cells #[.string s] 9)).alloc (.cells #[.slice A n c] 22)) :=
    ((((Below.refl _ w).alloc (Nat.le_refl _) _).alloc (by simp) _).alloc (by rw [sz0]; omega) _).alloc (by rw [sz1]; omega) _
  generalize (((w.alloc (.cells #[.int .i64 (N : Int)] 3)).alloc (.cells #[.int .i64 0] 3)).alloc (.cells #[.string s] 9)).alloc (.cells #[.slice A n c] 22) = wF at *
  clear sz0 sz1
  have hst := HF.out (6 - 1) (by omega) _ _ wF k3 k4 kb
  refine wpIn_rangeTo rfl (by omega) (gf := 41) (lb := #[.pointer (some ⟨w.heap.size + 1 + 1, 0, none⟩), .pointer (some ⟨w.heap.size + 1 + 1 + 1, 0, none⟩)]) rfl trivial (enters_of Tryd.func41 (by kernel_rfl) rfl)
    hst (Below.refl _ _) (fun _ => rfl)
    (fun j => { tmps := #[.string s, .slice A n c, .int .i64 (N : Int), undef, undef, .pointer (some ⟨w.heap.size, 0, none⟩), .pointer (some ⟨w.heap.size + 1, 0, none⟩), .int .i64 (f j : Int), .string s, .slice A n c,
        .func (.func 41) #[] #[.pointer (some ⟨w.heap.size + 1 + 1, 0, none⟩), .pointer (some ⟨w.heap.size + 1 + 1 + 1, 0, none⟩)], .int .i64 (f j : Int), undef, undef, undef, undef, undef, undef, undef, undef, undef], defers := [] })
    (fun W => Blk W (w.heap.size + 1) 3 #[.int .i64 ((f K % N : Nat) : Int)] ∧ Below w.heap.size w W)
    (OwnFrom.and (fun _ W W' row hs hg hr => (grownBy_keeps_cells hg (fun r e => (hr r e).2) hs rfl).trans hs) (ownFrom_below (Nat.le_refl _) kb.size))
    ?assign ?on ?body ?stop
  case assign =>
    intro l j W K hK
    generalize f j = x at *
    gi_wp2
    exact hK
  case on =>
    intro l j W hj hB
    have hw2 := HNO.out j hj
    clear hw'
    generalize f j = x at *
    have hb := kb.trans (hB.mono kb.size)
    have m1 := k1.below hB k1.lt
    have m2 := k2.below hB k2.lt
    have c1 : W.cell? ⟨w.heap.size, 0, none⟩ = some (.int .i64 (N : Int)) := m1.at_ rfl
    have c2 : W.cell? ⟨w.heap.size + 1, 0, none⟩ = some (.int .i64 0) := m2.at_ rfl
    have f2 := m2.frozen 0
    have hB2 := hB
    clear k1 k2 k3 k4 hst kb hB hw1
    have hNz : ¬ N = 0 := by omega
    have hq : ((281474976710656 : Int).tdiv (N : Int)) = ((281474976710656 / N : Nat) : Int) := by
      rw [Int.tdiv_eq_ediv_of_nonneg (by omega)]
      simp
    have hq1 : IntKind.i64.wrap ((281474976710656 / N : Nat) : Int) = ((281474976710656 / N : Nat) : Int) := by
      have h1 : 281474976710656 / N ≤ 281474976710656 := Nat.div_le_self _ _
      generalize 281474976710656 / N = z at *
      simp [IntKind.wrap, IntKind.signed, IntKind.bits]
      omega
    have hq2 : IntKind.i64.wrap (((281474976710656 / N : Nat) : Int) * (N : Int)) = ((281474976710656 / N * N : Nat) : Int) := by
      have h1 : 281474976710656 / N * N ≤ 281474976710656 := Nat.div_mul_le_self _ _
      rw [← Int.natCast_mul]
      generalize 281474976710656 / N * N = z at *
      simp [IntKind.wrap, IntKind.signed, IntKind.bits]
      omega
    have hlt : ¬ (x : Int) < ((281474976710656 / N * N : Nat) : Int) := by omega
    generalize hz1 : 281474976710656 / N * N = z1 at *
    generalize hz2 : 281474976710656 / N = z2 at *
    clear hz1 hz2 hw2
    gi_wp2
    gi_region
    all_goals
      gi_wp2
      exact ⟨KeepsOthers.drew _, hB2.drew⟩
  case body =>
    intro l W hB
    have hw2 := hw'
    clear hw'
    generalize f K = x at *
    have hb := kb.trans (hB.mono kb.size)
    have m1 := k1.below hB k1.lt
    have m2 := k2.below hB k2.lt
    have c1 : W.cell? ⟨w.heap.size, 0, none⟩ = some (.int .i64 (N : Int)) := m1.at_ rfl
    have c2 : W.cell? ⟨w.heap.size + 1, 0, none⟩ = some (.int .i64 0) := m2.at_ rfl
    have f2 := m2.frozen 0
    clear k1 k2 k3 k4 hst kb hB hw1
    have hNz : ¬ N = 0 := by omega
    have hq : ((281474976710656 : Int).tdiv (N : Int)) = ((281474976710656 / N : Nat) : Int) := by
      rw [Int.tdiv_eq_ediv_of_nonneg (by omega)]
      simp
    have hq1 : IntKind.i64.wrap ((281474976710656 / N : Nat) : Int) = ((281474976710656 / N : Nat) : Int) := by
      have h1 : 281474976710656 / N ≤ 281474976710656 := Nat.div_le_self _ _
      generalize 281474976710656 / N = z at *
      simp [IntKind.wrap, IntKind.signed, IntKind.bits]
      omega
    have hq2 : IntKind.i64.wrap (((281474976710656 / N : Nat) : Int) * (N : Int)) = ((281474976710656 / N * N : Nat) : Int) := by
      have h1 : 281474976710656 / N * N ≤ 281474976710656 := Nat.div_mul_le_self _ _
      rw [← Int.natCast_mul]
      generalize 281474976710656 / N * N = z at *
      simp [IntKind.wrap, IntKind.signed, IntKind.bits]
      omega
    have hlt : (x : Int) < ((281474976710656 / N * N : Nat) : Int) := by omega
    have hm : (x : Int).tmod (N : Int) = ((x % N : Nat) : Int) := by
      rw [Int.tmod_eq_emod_of_nonneg (by omega)]
      simp
    have hm2 : IntKind.i64.wrap ((x % N : Nat) : Int) = ((x % N : Nat) : Int) := by
      have := Nat.mod_lt x (y := N) (by omega)
      generalize x % N = z at *
      simp [IntKind.wrap, IntKind.signed, IntKind.bits]
      omega
    generalize hz1 : 281474976710656 / N * N = z1 at *
    generalize hz2 : 281474976710656 / N = z2 at *
    generalize hz3 : x % N = z3 at *
    clear hz1 hz2 hz3 hw2
    gi_wp2
    gi_region
    all_goals
      gi_wp2
      exact ⟨(KeepsOthers.setCell W _ _).trans (KeepsOthers.drew _), (m2.set_ 0 (.int .i64 (z3 : Int))).drew, (hb.setCell (Nat.le_succ _) _).drew⟩
  case stop =>
    rintro D W hD ⟨hk, hB⟩ hK
    have hne : w.heap.size + 1 ≠ D := by have := k2.lt; omega
    have hc : (W.putObj D (.deferred none)).cell? ⟨w.heap.size + 1, 0, none⟩ = some (.int .i64 ((f K % N : Nat) : Int)) := (World.cell?_of_block (World.putObj_heap_other hne)).trans (hk.at_ rfl)
    gi_wp2
    refine ⟨by simp, .inl ⟨_, _, rfl, run_takeDeferred hK, ?_⟩⟩
    refine ⟨.int .i64 ((f K % N : Nat) : Int), ?_, rfl, hB.trans (belowK_b (w := wF) kb.size W D _ _ hD hK rfl rfl)⟩
    simp [results, Tryd.results35, go_sem, hc]
end Go.Proofs.YtnionejefpnfoaaDoor
