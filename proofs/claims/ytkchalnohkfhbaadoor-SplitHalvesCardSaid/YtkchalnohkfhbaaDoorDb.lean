/- The walks of package draw: below and Num, where the first word is taken. Conditions: the round constants lie in their variable; the seed and the path are short. -/
import Derived.Test.YtkchalnohkfhbaaDoorDa
import Derived.Test.YtkchalnohkfhbaaDoorPe
import Derived.Defers
import Derived.RangeFuncCalls
set_option linter.unusedSimpArgs false
set_option linter.unusedVariables false
namespace Go.Proofs.YtkchalnohkfhbaaDoor
open Go.RowKit Go.Shelf
attribute [local go_sem] Oper.semAt_some

/-- a draw's seed and path are short -/
def validB (s : ByteArray) (n : Nat) : Bool := decide (s.size ≤ 32 ∧ n ≤ 8)
set_option maxRecDepth 100000 in
set_option maxHeartbeats 2000000 in
theorem valid_any (s : ByteArray) (A : Option Addr) (n c : Nat) (w : World) (hs : s.size ≤ 1000000) (hn : n ≤ 1000000) :
    Calls Tryd.prog 25 #[.string s, .slice A n c] w fun E W' => E = .returned (.bool (validB s n)) ∧ W' = w := by
  by_cases h1 : (s.size : Int) ≤ 32
  · by_cases h2 : (n : Int) ≤ 8
    · rw [show validB s n = true from decide_eq_true ⟨by omega, by omega⟩]
      go_enter Tryd.func25, Tryd.ntmps25
      go_wp2_with fail
      go_ret
      exact ⟨rfl, rfl⟩
    · rw [show validB s n = false from decide_eq_false (by omega)]
      go_enter Tryd.func25, Tryd.ntmps25
      go_wp2_with fail
      go_ret
      exact ⟨rfl, rfl⟩
  · rw [show validB s n = false from decide_eq_false (by omega)]
    go_enter Tryd.func25, Tryd.ntmps25
    go_wp2_with fail
    go_ret
    exact ⟨rfl, rfl⟩
set_option maxRecDepth 100000 in
set_option maxHeartbeats 2000000 in
theorem tries_any (s : ByteArray) (A : Option Addr) (n c : Nat) (w : World) :
    Calls Tryd.prog 30 #[.string s, .slice A n c] w fun E W' => E = .returned (.func (.func 32) #[] #[.pointer (some ⟨w.heap.size, 0, none⟩), .pointer (some ⟨w.heap.size + 1, 0, none⟩)]) ∧ W' = (w.alloc (.cells #[.string s] 9)).alloc (.cells #[.slice A n c] 22) := by
  go_enter Tryd.func30, Tryd.ntmps30
  go_wp2
  go_ret
  exact ⟨rfl, rfl⟩
set_option maxRecDepth 100000 in
set_option maxHeartbeats 2000000 in
theorem tries_first (fu : Nat) (hfu : 2 ≤ fu) (gs gp : Nat) {s : ByteArray} {A : Option Addr} {n c : Nat} {l : List Int} {wS : World} (h : Net s A n l wS) (w : World)
    (h1 : Blk w gs 9 #[.string s]) (h2 : Blk w gp 22 #[.slice A n c]) (hb : Below wS.heap.size wS w) :
    FirstGives Fence.wide fu Tryd.prog 32 #[.pointer (some ⟨gs, 0, none⟩), .pointer (some ⟨gp, 0, none⟩)] #[.int .i64 (wordN s l 0 : Int)] w := fun lo Jx W hW hY => by
  have hB := hb.trans (hW.mono hb.size)
  have k1 := h1.below hW h1.lt
  have k2 := h2.below hW h2.lt
  have e1 : W.cell? ⟨gs, 0, none⟩ = some (.string s) := k1.at_ rfl
  have e2 : W.cell? ⟨gp, 0, none⟩ = some (.slice A n c) := k2.at_ rfl
  have hn := h.below hB
  have hw := word_any s A n c l 0 W hn.reads hn.nums ⟨by omega, by omega⟩ hn.short hn.text hn.consts hn.pos
  generalize wordN s l 0 = x at *
  have HW := Lib.hid hw
  clear hw
  refine callsIn_of_wp Tryd.func32 rfl trivial ?_ rfl
  simp only [Tryd.ntmps32, List.size_toArray, List.length_cons, List.length_nil, Nat.reduceAdd, Nat.reduceSub, Array.replicate_succ, Array.replicate_zero, List.push_toArray, List.append_toArray, List.nil_append, List.cons_append]
  gi_wp2
  gi_loopw [4] (fun i wr => i = .int .i64 0 ∧ wr = W) (fun _ _ => 0)
  case atStart => exact ⟨rfl, rfl⟩
  case round =>
    obtain ⟨rfl, rfl⟩ := hrel
    gi_wp2
    refine ⟨trivial, fun _ => by omega, ?_⟩
    refine (callsIn_wide.2 HW.out).mono ?_
    rintro E w2 ⟨rfl, b2⟩
    obtain ⟨fn, tmps, assign, body, hy, hR⟩ := hY w2 b2
    gi_wp2
    refine ⟨fun _ => by omega, ?_⟩
    refine hR.mono ?_
    rintro E W3 ⟨rfl, hJ3⟩
    gi_wp2
    go_end0
    exact ⟨⟨_, rfl⟩, hJ3⟩
set_option maxRecDepth 100000 in
set_option maxHeartbeats 4000000 in
theorem below_first {s : ByteArray} {A : Option Addr} {n c : Nat} {l : List Int} {w : World} (h : Net s A n l w) (N : Nat) (hN : 1 ≤ N) (hN2 : N ≤ 1099511627776) (hw : wordN s l 0 < 281474976710656 / N * N) :
    Calls Tryd.prog 26 #[.string s, .slice A n c, .int .i64 (N : Int)] w fun E W' => E = .returned (.int .i64 ((wordN s l 0 % N : Nat) : Int)) ∧ Below w.heap.size w W' := by
  have HF := Lib.hid (fun fu hfu gs gp W => tries_first fu hfu gs gp (c := c) h W)
  have HT := Lib.hid (fun W => tries_any s A n c W)
  generalize wordN s l 0 = x at *
  refine (callsIn_wide (n := 6)).1 ?_
  refine callsIn_of_wp_marks Tryd.func26 rfl trivial ?_ rfl
  simp only [Tryd.ntmps26, List.size_toArray, List.length_cons, List.length_nil, Nat.reduceAdd, Nat.reduceSub, Array.replicate_succ, Array.replicate_zero, List.push_toArray, List.append_toArray, List.nil_append, List.cons_append]
  gi_wp2
  refine ⟨trivial, ?_⟩
  refine (callsIn_wide.2 (HT.out _)).mono ?_
  rintro E w1 ⟨rfl, hw1⟩
  gi_wp2
  have sz1 : (((w.alloc (.cells #[.int .i64 (N : Int)] 3)).alloc (.cells #[.int .i64 0] 3)).alloc (.cells #[.string s] 9)).heap.size = w.heap.size + 1 + 1 + 1 := by simp
  have sz0 : ((w.alloc (.cells #[.int .i64 (N : Int)] 3)).alloc (.cells #[.int .i64 0] 3)).heap.size = w.heap.size + 1 + 1 := by simp
  have k1 : Blk ((((w.alloc (.cells #[.int .i64 (N : Int)] 3)).alloc (.cells #[.int .i64 0] 3)).alloc (.cells #[.string s] 9)).alloc (.cells #[.slice A n c] 22)) w.heap.size 3 #[.int .i64 (N : Int)] := (((Blk.new w 3 _).alloc _).alloc _).alloc _
  have k2 : Blk ((((w.alloc (.cells #[.int .i64 (N : Int)] 3)).alloc (.cells #[.int .i64 0] 3)).alloc (.cells #[.string s] 9)).alloc (.cells #[.slice A n c] 22)) (w.heap.size + 1) 3 #[.int .i64 0] := ((Blk.new' (by simp)).alloc _).alloc _
  have k3 : Blk ((((w.alloc (.cells #[.int .i64 (N : Int)] 3)).alloc (.cells #[.int .i64 0] 3)).alloc (.cells #[.string s] 9)).alloc (.cells #[.slice A n c] 22)) (w.heap.size + 1 + 1) 9 #[.string s] := (Blk.new' sz0.symm).alloc _
  have k4 : Blk ((((w.alloc (.cells #[.int .i64 (N : Int)] 3)).alloc (.cells #[.int .i64 0] 3)).alloc (.cells #[.string s] 9)).alloc (.cells #[.slice A n c] 22)) (w.heap.size + 1 + 1 + 1) 22 #[.slice A n c] := Blk.new' sz1.symm
  have kb : Below w.heap.size w ((((w.alloc (.cells #[.int .i64 (N : Int)] 3)).alloc (.cells #[.int .i64 0] 3)).alloc (.cells #[.string s] 9)).alloc (.cells #[.slice A n c] 22)) :=
    ((((Below.refl _ w).alloc (Nat.le_refl _) _).alloc (by simp) _).alloc (by rw [sz0]; omega) _).alloc (by rw [sz1]; omega) _
  generalize (((w.alloc (.cells #[.int .i64 (N : Int)] 3)).alloc (.cells #[.int .i64 0] 3)).alloc (.cells #[.string s] 9)).alloc (.cells #[.slice A n c] 22) = wF at *
  clear sz0 sz1
  have hst := HF.out (6 - 1) (by omega) _ _ wF k3 k4 kb
  refine wpIn_rangeFirst rfl (by omega) (gf := 32) (lb := #[.pointer (some ⟨w.heap.size + 1 + 1, 0, none⟩), .pointer (some ⟨w.heap.size + 1 + 1 + 1, 0, none⟩)]) rfl trivial (enters_of Tryd.func32 (by kernel_rfl) rfl)
    hst (Below.refl _ _) rfl
    { tmps := #[.string s, .slice A n c, .int .i64 (N : Int), undef, undef, .pointer (some ⟨w.heap.size, 0, none⟩), .pointer (some ⟨w.heap.size + 1, 0, none⟩), .int .i64 (x : Int), .string s, .slice A n c,
        .func (.func 32) #[] #[.pointer (some ⟨w.heap.size + 1 + 1, 0, none⟩), .pointer (some ⟨w.heap.size + 1 + 1 + 1, 0, none⟩)], .int .i64 (x : Int), undef, undef, undef, undef, undef, undef, undef, undef, undef], defers := [] }
    (fun W => Blk W (w.heap.size + 1) 3 #[.int .i64 ((x % N : Nat) : Int)] ∧ Below w.heap.size w W)
    (OwnFrom.and (fun _ W W' row hs hg hr => (grownBy_keeps_cells hg (fun r e => (hr r e).2) hs rfl).trans hs) (ownFrom_below (Nat.le_refl _) kb.size))
    ?assign ?body ?stop
  case assign =>
    intro l W K hK
    gi_wp2
    exact hK
  case body =>
    intro l W hB
    have hb := kb.trans (hB.mono kb.size)
    have m1 := k1.below hB k1.lt
    have m2 := k2.below hB k2.lt
    have c1 : W.cell? ⟨w.heap.size, 0, none⟩ = some (.int .i64 (N : Int)) := m1.at_ rfl
    have c2 : W.cell? ⟨w.heap.size + 1, 0, none⟩ = some (.int .i64 0) := m2.at_ rfl
    have f2 := m2.frozen 0
    clear k1 k2 k3 k4 hst kb hB hw1
    have hNz : ¬ N = 0 := by omega
    have hq : ((281474976710656 : Int).tdiv (N : Int)) = ((281474976710656 / N : Nat) : Int) := by
      rw [Int.tdiv_eq_ediv_of_nonneg (by omega)]
      simp
    have hq1 : IntKind.i64.wrap ((281474976710656 / N : Nat) : Int) = ((281474976710656 / N : Nat) : Int) := by
      have h1 : 281474976710656 / N ≤ 281474976710656 := Nat.div_le_self _ _
      generalize 281474976710656 / N = z at *
      simp [IntKind.wrap, IntKind.signed, IntKind.bits]
      omega
    have hq2 : IntKind.i64.wrap (((281474976710656 / N : Nat) : Int) * (N : Int)) = ((281474976710656 / N * N : Nat) : Int) := by
      have h1 : 281474976710656 / N * N ≤ 281474976710656 := Nat.div_mul_le_self _ _
      rw [← Int.natCast_mul]
      generalize 281474976710656 / N * N = z at *
      simp [IntKind.wrap, IntKind.signed, IntKind.bits]
      omega
    have hlt : (x : Int) < ((281474976710656 / N * N : Nat) : Int) := by omega
    have hm : (x : Int).tmod (N : Int) = ((x % N : Nat) : Int) := by
      rw [Int.tmod_eq_emod_of_nonneg (by omega)]
      simp
    have hm2 : IntKind.i64.wrap ((x % N : Nat) : Int) = ((x % N : Nat) : Int) := by
      have := Nat.mod_lt x (y := N) (by omega)
      generalize x % N = z at *
      simp [IntKind.wrap, IntKind.signed, IntKind.bits]
      omega
    generalize hz1 : 281474976710656 / N * N = z1 at *
    generalize hz2 : 281474976710656 / N = z2 at *
    generalize hz3 : x % N = z3 at *
    clear hz1 hz2 hz3 hw
    gi_wp2
    gi_region
    all_goals
      gi_wp2
      exact ⟨(KeepsOthers.setCell W _ _).trans (KeepsOthers.drew _), (m2.set_ 0 (.int .i64 (z3 : Int))).drew, (hb.setCell (Nat.le_succ _) _).drew⟩
  case stop =>
    rintro D W hD ⟨hk, hB⟩ hK
    have hne : w.heap.size + 1 ≠ D := by have := k2.lt; omega
    have hc : (W.putObj D (.deferred none)).cell? ⟨w.heap.size + 1, 0, none⟩ = some (.int .i64 ((x % N : Nat) : Int)) := (World.cell?_of_block (World.putObj_heap_other hne)).trans (hk.at_ rfl)
    gi_wp2
    refine ⟨by simp, .inl ⟨_, _, rfl, run_takeDeferred hK, ?_⟩⟩
    refine ⟨.int .i64 ((x % N : Nat) : Int), ?_, rfl, hB.trans (belowK_b (w := wF) kb.size W D _ _ hD hK rfl rfl)⟩
    simp [results, Tryd.results26, go_sem, hc]

/-- the error that 'checked' lays -/
def errV (s : ByteArray) (n : Nat) (fits : Bool) : Int := if validB s n then (if fits then 0 else 5) else 1
set_option maxRecDepth 100000 in
set_option maxHeartbeats 2000000 in
theorem checked_any (s : ByteArray) (A : Option Addr) (n c : Nat) (fits : Bool) (g : Nat) (u : FrameMode) (w : World) (hs : s.size ≤ 1000000) (hn : n ≤ 1000000) (he : Blk w g 26 #[.int .i64 0]) :
    CallsD Tryd.prog 24 #[.string s, .slice A n c, .bool fits, .pointer (some ⟨g, 0, none⟩)] u w fun E u' W' => u' = u ∧ E = .returned (.tuple #[]) ∧ Blk W' g 26 #[.int .i64 (errV s n fits)] ∧ ∀ B, B ≤ g → Below B w W' := by
  have hv := valid_any s A n c w hs hn
  have hf := he.frozen 0
  have hc : w.cell? ⟨g, 0, none⟩ = some (.int .i64 0) := he.at_ rfl
  unfold errV
  generalize validB s n = vb at *
  cases vb
  · go_enter_d Tryd.func24, Tryd.ntmps24
    go_wp2_with fail
    refine hv.mono ?_
    rintro E w1 ⟨rfl, rfl⟩
    go_wp2_with fail
    go_end0
    exact ⟨rfl, he.set_ 0 _, fun B hB => (Below.refl _ _).setCell hB _⟩
  · cases fits
    · go_enter_d Tryd.func24, Tryd.ntmps24
      go_wp2_with fail
      refine hv.mono ?_
      rintro E w1 ⟨rfl, rfl⟩
      go_wp2_with fail
      go_end0
      exact ⟨rfl, he.set_ 0 _, fun B hB => (Below.refl _ _).setCell hB _⟩
    · go_enter_d Tryd.func24, Tryd.ntmps24
      go_wp2_with fail
      refine hv.mono ?_
      rintro E w1 ⟨rfl, rfl⟩
      go_wp2_with fail
      go_end0
      exact ⟨rfl, he, fun B hB => Below.refl _ _⟩
end Go.Proofs.YtkchalnohkfhbaaDoor
