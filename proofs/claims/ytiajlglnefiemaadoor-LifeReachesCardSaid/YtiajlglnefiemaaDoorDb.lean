/- The walks of package draw: below and Num, where the first word is taken. Conditions: the round constants lie in their variable; the seed and the path are short. -/
import Derived.Test.YtiajlglnefiemaaDoorDa
import Derived.Test.YtiajlglnefiemaaDoorPf
import Derived.Defers
import Derived.RangeFuncCalls
set_option linter.unusedSimpArgs false
set_option linter.unusedVariables false
namespace Go.Proofs.YtiajlglnefiemaaDoor
open Go.RowKit Go.Shelf
attribute [local go_sem] Oper.semAt_some

/-- a draw's seed and path are short -/
def validB (s : ByteArray) (n : Nat) : Bool := decide (s.size ≤ 32 ∧ n ≤ 8)
set_option maxRecDepth 100000 in
set_option maxHeartbeats 2000000 in
theorem valid_any (s : ByteArray) (A : Option Addr) (n c : Nat) (w : World) (hs : s.size ≤ 1000000) (hn : n ≤ 1000000) :
    Calls Tryd.prog 87 #[.string s, .slice A n c] w fun E W' => E = .returned (.bool (validB s n)) ∧ W' = w := by
  by_cases h1 : (s.size : Int) ≤ 32
  · by_cases h2 : (n : Int) ≤ 8
    · rw [show validB s n = true from decide_eq_true ⟨by omega, by omega⟩]
      go_enter Tryd.func87, Tryd.ntmps87
      go_wp2_with fail
      go_ret
      exact ⟨rfl, rfl⟩
    · rw [show validB s n = false from decide_eq_false (by omega)]
      go_enter Tryd.func87, Tryd.ntmps87
      go_wp2_with fail
      go_ret
      exact ⟨rfl, rfl⟩
  · rw [show validB s n = false from decide_eq_false (by omega)]
    go_enter Tryd.func87, Tryd.ntmps87
    go_wp2_with fail
    go_ret
    exact ⟨rfl, rfl⟩
set_option maxRecDepth 100000 in
set_option maxHeartbeats 2000000 in
theorem tries_any (s : ByteArray) (A : Option Addr) (n c : Nat) (w : World) :
    Calls Tryd.prog 102 #[.string s, .slice A n c] w fun E W' => E = .returned (.func (.func 113) #[] #[.pointer (some ⟨w.heap.size, 0, none⟩), .pointer (some ⟨w.heap.size + 1, 0, none⟩)]) ∧ W' = (w.alloc (.cells #[.string s] 9)).alloc (.cells #[.slice A n c] 22) := by
  go_enter Tryd.func102, Tryd.ntmps102
  go_wp2
  go_ret
  exact ⟨rfl, rfl⟩
set_option maxRecDepth 100000 in
set_option maxHeartbeats 2000000 in
theorem tries_first (fu : Nat) (hfu : 2 ≤ fu) (gs gp : Nat) {s : ByteArray} {A : Option Addr} {n c : Nat} {l : List Int} {wS : World} (h : Net s A n l wS) (w : World)
    (h1 : Blk w gs 9 #[.string s]) (h2 : Blk w gp 22 #[.slice A n c]) (hb : Below wS.heap.size wS w) :
    FirstGives Fence.wide fu Tryd.prog 113 #[.pointer (some ⟨gs, 0, none⟩), .pointer (some ⟨gp, 0, none⟩)] #[.int .i64 (wordN s l 0 : Int)] w := fun lo Jx W hW hY => by
  have hB := hb.trans (hW.mono hb.size)
  have k1 := h1.below hW h1.lt
  have k2 := h2.below hW h2.lt
  have e1 : W.cell? ⟨gs, 0, none⟩ = some (.string s) := k1.at_ rfl
  have e2 : W.cell? ⟨gp, 0, none⟩ = some (.slice A n c) := k2.at_ rfl
  have hn := h.below hB
  have hw := word_any s A n c l 0 W hn.reads hn.nums ⟨by omega, by omega⟩ hn.short hn.text hn.consts hn.pos
  generalize wordN s l 0 = x at *
  have HW := Lib.hid hw
  clear hw
  refine callsIn_of_wp Tryd.func113 rfl trivial ?_ rfl
  simp only [Tryd.ntmps113, List.size_toArray, List.length_cons, List.length_nil, Nat.reduceAdd, Nat.reduceSub, Array.replicate_succ, Array.replicate_zero, List.push_toArray, List.append_toArray, List.nil_append, List.cons_append]
  gi_wp2
  gi_loopw [4] (fun i wr => i = .int .i64 0 ∧ wr = W) (fun _ _ => 0)
  case atStart => exact ⟨rfl, rfl⟩
  case round =>
    obtain ⟨rfl, rfl⟩ := hrel
    gi_wp2
    refine ⟨trivial, fun _ => by omega, ?_⟩
    refine (callsIn_wide.2 HW.out).mono ?_
    rintro E w2 ⟨rfl, b2⟩
    obtain ⟨fn, tmps, assign, body, hy, hR⟩ := hY w2 b2
    gi_wp2
    refine ⟨fun _ => by omega, ?_⟩
    refine hR.mono ?_
    rintro E W3 ⟨rfl, hJ3⟩
    gi_wp2
    go_end0
    exact ⟨⟨_, rfl⟩, hJ3⟩
set_option maxRecDepth 100000 in
set_option maxHeartbeats 4000000 in
theorem below_first {s : ByteArray} {A : Option Addr} {n c : Nat} {l : List Int} {w : World} (h : Net s A n l w) (N : Nat) (hN : 1 ≤ N) (hN2 : N ≤ 1099511627776) (hw : wordN s l 0 < 281474976710656 / N * N) :
    Calls Tryd.prog 88 #[.string s, .slice A n c, .int .i64 (N : Int)] w fun E W' => E = .returned (.int .i64 ((wordN s l 0 % N : Nat) : Int)) ∧ Below w.heap.size w W' := by
  have HF := Lib.hid (fun fu hfu gs gp W => tries_first fu hfu gs gp (c := c) h W)
  have HT := Lib.hid (fun W => tries_any s A n c W)
  generalize wordN s l 0 = x at *
  refine (callsIn_wide (n := 6)).1 ?_
  refine callsIn_of_wp_marks Tryd.func88 rfl trivial ?_ rfl
  simp only [Tryd.ntmps88, List.size_toArray, List.length_cons, List.length_nil, Nat.reduceAdd, Nat.reduceSub, Array.replicate_succ, Array.replicate_zero, List.push_toArray, List.append_toArray, List.nil_append, List.cons_append]
  gi_wp2
  refine ⟨trivial, ?_⟩
  refine (callsIn_wide.2 (HT.out _)).mono ?_
  rintro E w1 ⟨rfl, hw1⟩
  gi_wp2
  have sz1 : (((w.alloc (.cells #[.int .i64 (N : Int)] 3)).alloc (.cells #[.int .i64 0] 3)).alloc (.cells #[.string s] 9)).heap.size = w.heap.size + 1 + 1 + 1 := by simp
  have sz0 : ((w.alloc (.cells #[.int .i64 (N : Int)] 3)).alloc (.cells #[.int .i64 0] 3)).heap.size = w.heap.size + 1 + 1 := by simp
  have k1 : Blk ((((w.alloc (.cells #[.int .i64 (N : Int)] 3)).alloc (.cells #[.int .i64 0] 3)).alloc (.cells #[.string s] 9)).alloc (.cells #[.slice A n c] 22)) w.heap.size 3 #[.int .i64 (N : Int)] := (((Blk.new w 3 _).alloc _).alloc _).alloc _
  have k2 : Blk ((((w.alloc (.cells #[.int .i64 (N : Int)] 3)).alloc (.cells #[.int .i64 0] 3)).alloc (.cells #[.string s] 9)).alloc (.cells #[.slice A n c] 22)) (w.heap.size + 1) 3 #[.int .i64 0] := ((Blk.new' (by simp)).alloc _).alloc _
  have k3 : Blk ((((w.alloc (.cells #[.int .i64 (N : Int)] 3)).alloc (.cells #[.int .i64 0] 3)).alloc (.cells #[.string s] 9)).alloc (.cells #[.slice A n c] 22)) (w.heap.size + 1 + 1) 9 #[.string s] := (Blk.new' sz0.symm).alloc _
  have k4 : Blk ((((w.alloc (.cells #[.int .i64 (N : Int)] 3)).alloc (.cells #[.int .i64 0] 3)).alloc (.cells #[.string s] 9)).alloc (.cells #[.slice A n c] 22)) (w.heap.size + 1 + 1 + 1) 22 #[.slice A n c] := Blk.new' sz1.symm
  have kb : Below w.heap.size w ((((w.alloc (.cells #[.int .i64 (N : Int)] 3)).alloc (.cells #[.int .i64 0] 3)).alloc (.cells #[.string s] 9)).alloc (.cells #[.slice A n c] 22)) :=
    ((((Below.refl _ w).alloc (Nat.le_refl _) _).alloc (by simp) _).alloc (by rw [sz0]; omega) _).alloc (by rw [sz1]; omega) _
  generalize (((w.alloc (.cells #[.int .i64 (N : Int)] 3)).alloc (.cells #[.int .i64 0] 3)).alloc (.cells #[.string s] 9)).alloc (.cells #[.slice A n c] 22) = wF at *
  clear sz0 sz1
  have hst := HF.out (6 - 1) (by omega) _ _ wF k3 k4 kb
  refine wpIn_rangeFirst rfl (by omega) (gf := 113) (lb := #[.pointer (some ⟨w.heap.size + 1 + 1, 0, none⟩), .pointer (some ⟨w.heap.size + 1 + 1 + 1, 0, none⟩)]) rfl trivial (enters_of Tryd.func113 (by kernel_rfl) rfl)
    hst (Below.refl _ _) rfl
    { tmps := #[.string s, .slice A n c, .int .i64 (N : Int), undef, undef, .pointer (some ⟨w.heap.size, 0, none⟩), .pointer (some ⟨w.heap.size + 1, 0, none⟩), .int .i64 (x : Int), .string s, .slice A n c,
        .func (.func 113) #[] #[.pointer (some ⟨w.heap.size + 1 + 1, 0, none⟩), .pointer (some ⟨w.heap.size + 1 + 1 + 1, 0, none⟩)], .int .i64 (x : Int), undef, undef, undef, undef, undef, undef, undef, undef, undef], defers := [] }
    (fun W => Blk W (w.heap.size + 1) 3 #[.int .i64 ((x % N : Nat) : Int)] ∧ Below w.heap.size w W)
    (OwnFrom.and (fun _ W W' row hs hg hr => (grownBy_keeps_cells hg (fun r e => (hr r e).2) hs rfl).trans hs) (ownFrom_below (Nat.le_refl _) kb.size))
    ?assign ?body ?stop
  case assign =>
    intro l W K hK
    gi_wp2
    exact hK
  case body =>
    intro l W hB
    have hb := kb.trans (hB.mono kb.size)
    have m1 := k1.below hB k1.lt
    have m2 := k2.below hB k2.lt
    have c1 : W.cell? ⟨w.heap.size, 0, none⟩ = some (.int .i64 (N : Int)) := m1.at_ rfl
    have c2 : W.cell? ⟨w.heap.size + 1, 0, none⟩ = some (.int .i64 0) := m2.at_ rfl
    have f2 := m2.frozen 0
    clear k1 k2 k3 k4 hst kb hB hw1
    have hNz : ¬ N = 0 := by omega
    have hq : ((281474976710656 : Int).tdiv (N : Int)) = ((281474976710656 / N : Nat) : Int) := by
      rw [Int.tdiv_eq_ediv_of_nonneg (by omega)]
      simp
    have hq1 : IntKind.i64.wrap ((281474976710656 / N : Nat) : Int) = ((281474976710656 / N : Nat) : Int) := by
      have h1 : 281474976710656 / N ≤ 281474976710656 := Nat.div_le_self _ _
      generalize 281474976710656 / N = z at *
      simp [IntKind.wrap, IntKind.signed, IntKind.bits]
      omega
    have hq2 : IntKind.i64.wrap (((281474976710656 / N : Nat) : Int) * (N : Int)) = ((281474976710656 / N * N : Nat) : Int) := by
      have h1 : 281474976710656 / N * N ≤ 281474976710656 := Nat.div_mul_le_self _ _
      rw [← Int.natCast_mul]
      generalize 281474976710656 / N * N = z at *
      simp [IntKind.wrap, IntKind.signed, IntKind.bits]
      omega
    have hlt : (x : Int) < ((281474976710656 / N * N : Nat) : Int) := by omega
    have hm : (x : Int).tmod (N : Int) = ((x % N : Nat) : Int) := by
      rw [Int.tmod_eq_emod_of_nonneg (by omega)]
      simp
    have hm2 : IntKind.i64.wrap ((x % N : Nat) : Int) = ((x % N : Nat) : Int) := by
      have := Nat.mod_lt x (y := N) (by omega)
      generalize x % N = z at *
      simp [IntKind.wrap, IntKind.signed, IntKind.bits]
      omega
    generalize hz1 : 281474976710656 / N * N = z1 at *
    generalize hz2 : 281474976710656 / N = z2 at *
    generalize hz3 : x % N = z3 at *
    clear hz1 hz2 hz3 hw
    gi_wp2
    gi_region
    all_goals
      gi_wp2
      exact ⟨(KeepsOthers.setCell W _ _).trans (KeepsOthers.drew _), (m2.set_ 0 (.int .i64 (z3 : Int))).drew, (hb.setCell (Nat.le_succ _) _).drew⟩
  case stop =>
    rintro D W hD ⟨hk, hB⟩ hK
    have hne : w.heap.size + 1 ≠ D := by have := k2.lt; omega
    have hc : (W.putObj D (.deferred none)).cell? ⟨w.heap.size + 1, 0, none⟩ = some (.int .i64 ((x % N : Nat) : Int)) := (World.cell?_of_block (World.putObj_heap_other hne)).trans (hk.at_ rfl)
    gi_wp2
    refine ⟨by simp, .inl ⟨_, _, rfl, run_takeDeferred hK, ?_⟩⟩
    refine ⟨.int .i64 ((x % N : Nat) : Int), ?_, rfl, hB.trans (belowK_b (w := wF) kb.size W D _ _ hD hK rfl rfl)⟩
    simp [results, Tryd.results88, go_sem, hc]

/-- the error that 'checked' lays -/
def errV (s : ByteArray) (n : Nat) (fits : Bool) : Int := if validB s n then (if fits then 0 else 5) else 1
set_option maxRecDepth 100000 in
set_option maxHeartbeats 2000000 in
theorem checked_any (s : ByteArray) (A : Option Addr) (n c : Nat) (fits : Bool) (g : Nat) (u : FrameMode) (w : World) (hs : s.size ≤ 1000000) (hn : n ≤ 1000000) (he : Blk w g 26 #[.int .i64 0]) :
    CallsD Tryd.prog 86 #[.string s, .slice A n c, .bool fits, .pointer (some ⟨g, 0, none⟩)] u w fun E u' W' => u' = u ∧ E = .returned (.tuple #[]) ∧ Blk W' g 26 #[.int .i64 (errV s n fits)] ∧ ∀ B, B ≤ g → Below B w W' := by
  have hv := valid_any s A n c w hs hn
  have hf := he.frozen 0
  have hc : w.cell? ⟨g, 0, none⟩ = some (.int .i64 0) := he.at_ rfl
  unfold errV
  generalize validB s n = vb at *
  cases vb
  · go_enter_d Tryd.func86, Tryd.ntmps86
    go_wp2_with fail
    refine hv.mono ?_
    rintro E w1 ⟨rfl, rfl⟩
    go_wp2_with fail
    go_end0
    exact ⟨rfl, he.set_ 0 _, fun B hB => (Below.refl _ _).setCell hB _⟩
  · cases fits
    · go_enter_d Tryd.func86, Tryd.ntmps86
      go_wp2_with fail
      refine hv.mono ?_
      rintro E w1 ⟨rfl, rfl⟩
      go_wp2_with fail
      go_end0
      exact ⟨rfl, he.set_ 0 _, fun B hB => (Below.refl _ _).setCell hB _⟩
    · go_enter_d Tryd.func86, Tryd.ntmps86
      go_wp2_with fail
      refine hv.mono ?_
      rintro E w1 ⟨rfl, rfl⟩
      go_wp2_with fail
      go_end0
      exact ⟨rfl, he, fun B hB => Below.refl _ _⟩
/-- what Num answers where the first word is taken -/
def numV (s : ByteArray) (n : Nat) (l : List Int) (N : Int) : Nat := if (1 ≤ N ∧ N ≤ 1099511627776) ∧ validB s n then wordN s l 0 % N.toNat else 0
set_option maxRecDepth 100000 in
set_option maxHeartbeats 4000000 in
theorem num_any {s : ByteArray} {A : Option Addr} {n c : Nat} {l : List Int} {w : World} (h : Net s A n l w) (N : Int) (hw : (1 ≤ N ∧ N ≤ 1099511627776) ∧ validB s n → wordN s l 0 < 281474976710656 / N.toNat * N.toNat) :
    Calls Tryd.prog 61 #[.string s, .slice A n c, .int .i64 N] w fun E W' => E = .returned (.tuple #[.int .i64 (numV s n l N : Int), .int .i64 (errV s n (decide (1 ≤ N ∧ N ≤ 1099511627776)))]) ∧ Below w.heap.size w W' := by
  have hs : s.size ≤ 1000000 := by have := h.text; omega
  have hn : n ≤ 1000000 := by have := h.short; omega
  have hva := fun W => valid_any s A n c W hs hn
  have hch := fun fits g W => checked_any s A n c fits g .returning W hs hn
  by_cases h1 : (1 : Int) ≤ N
  · by_cases h2 : N ≤ (1099511627776 : Int)
    · obtain ⟨M, rfl⟩ := Int.eq_ofNat_of_zero_le (show 0 ≤ N by omega)
      have hfit : (1 ≤ (M : Int) ∧ (M : Int) ≤ 1099511627776) := ⟨h1, h2⟩
      rw [show decide (1 ≤ (M : Int) ∧ (M : Int) ≤ 1099511627776) = true from decide_eq_true hfit]
      rw [Int.toNat_natCast] at hw
      by_cases hv : validB s n = true
      · have hbl := fun W (hW : Net s A n l W) => below_first (c := c) hW M (by omega) (by omega) (hw ⟨hfit, hv⟩)
        have hx : numV s n l (M : Int) = wordN s l 0 % M := by unfold numV; rw [if_pos ⟨hfit, hv⟩, Int.toNat_natCast]
        have hy : errV s n true = 0 := by unfold errV; rw [hv]; rfl
        have hch := hch true
        rw [hy] at hch ⊢
        rw [hx]
        rw [hv] at hva
        generalize wordN s l 0 % M = x at *
        have HB := Lib.hid hbl
        have HV := Lib.hid hva
        have HC := Lib.hid hch
        clear hw hx hy hbl hva hch hv
        go_enter_defers Tryd.func61, Tryd.ntmps61
        go_wp2_with fail
        refine (HV.out _).mono ?_
        rintro E w1 ⟨rfl, hw1⟩
        go_wp2_with fail
        have B0 : Below w.heap.size w (w.alloc (.cells #[.int .i64 0] 26)) := (Below.refl _ w).alloc (Nat.le_refl _) _
        have K0 : Blk (w.alloc (.cells #[.int .i64 0] 26)) w.heap.size 26 #[.int .i64 0] := Blk.new w 26 _
        refine (HB.out _ (h.below B0)).mono ?_
        rintro E w2 ⟨rfl, b2⟩
        have K2 := K0.thru b2
        have B2 := below_next B0 b2
        have f2 := K2.frozen 0
        have c2 : w2.cell? ⟨w.heap.size, 0, none⟩ = some (.int .i64 0) := K2.at_ rfl
        clear b2 K0 B0 hw1
        go_wp2_with fail
        refine leaves_cons (f := 86) (args := #[.string s, .slice A n c, .bool true, .pointer (some ⟨w.heap.size, 0, none⟩)]) (by simp) (by simp [go_sem]) ?_
        refine (HC.out w.heap.size _ (K2.set_ 0 (.int .i64 0))).mono ?_
        rintro E u' w3 ⟨rfl, rfl, K3, b3⟩
        have c3 : w3.cell? ⟨w.heap.size, 0, none⟩ = some (.int .i64 0) := K3.at_ rfl
        refine ⟨.tuple #[.int .i64 (x : Int), .int .i64 0], ?_, rfl, (B2.setCell (Nat.le_refl _) _).trans (b3 _ (Nat.le_refl _))⟩
        simp [results, Tryd.results61, go_sem, c3]
      · have hv0 : validB s n = false := by simpa using hv
        have hx : numV s n l (M : Int) = 0 := by unfold numV; rw [if_neg (by rw [hv0]; simp)]
        have hy : errV s n true = 1 := by unfold errV; rw [hv0]; rfl
        have hch := hch true
        rw [hy] at hch ⊢
        rw [hx]
        rw [hv0] at hva
        have HV := Lib.hid hva
        have HC := Lib.hid hch
        clear hw hx hy hva hch hv hv0
        go_enter_defers Tryd.func61, Tryd.ntmps61
        go_wp2_with fail
        refine (HV.out _).mono ?_
        rintro E w1 ⟨rfl, hw1⟩
        have B0 : Below w.heap.size w (w.alloc (.cells #[.int .i64 0] 26)) := (Below.refl _ w).alloc (Nat.le_refl _) _
        have K0 : Blk (w.alloc (.cells #[.int .i64 0] 26)) w.heap.size 26 #[.int .i64 0] := Blk.new w 26 _
        go_wp2_with fail
        refine leaves_cons (f := 86) (args := #[.string s, .slice A n c, .bool true, .pointer (some ⟨w.heap.size, 0, none⟩)]) (by simp) (by simp [go_sem]) ?_
        refine (HC.out w.heap.size _ K0).mono ?_
        rintro E u' w3 ⟨rfl, rfl, K3, b3⟩
        have c3 : w3.cell? ⟨w.heap.size, 0, none⟩ = some (.int .i64 1) := K3.at_ rfl
        refine ⟨.tuple #[.int .i64 0, .int .i64 1], ?_, rfl, B0.trans (b3 _ (Nat.le_refl _))⟩
        simp [results, Tryd.results61, go_sem, c3]
    · have hx : numV s n l N = 0 := by unfold numV; rw [if_neg (by omega)]
      rw [hx, show decide (1 ≤ N ∧ N ≤ 1099511627776) = false from decide_eq_false (by omega)]
      have hch := hch false
      generalize errV s n false = ev at *
      have HC := Lib.hid hch
      clear hw hx hva hch
      go_enter_defers Tryd.func61, Tryd.ntmps61
      have B0 : Below w.heap.size w (w.alloc (.cells #[.int .i64 0] 26)) := (Below.refl _ w).alloc (Nat.le_refl _) _
      have K0 : Blk (w.alloc (.cells #[.int .i64 0] 26)) w.heap.size 26 #[.int .i64 0] := Blk.new w 26 _
      go_wp2_with fail
      refine leaves_cons (f := 86) (args := #[.string s, .slice A n c, .bool false, .pointer (some ⟨w.heap.size, 0, none⟩)]) (by simp) (by simp [go_sem]) ?_
      refine (HC.out w.heap.size _ K0).mono ?_
      rintro E u' w3 ⟨rfl, rfl, K3, b3⟩
      have c3 : w3.cell? ⟨w.heap.size, 0, none⟩ = some (.int .i64 ev) := K3.at_ rfl
      refine ⟨.tuple #[.int .i64 0, .int .i64 ev], ?_, rfl, B0.trans (b3 _ (Nat.le_refl _))⟩
      simp [results, Tryd.results61, go_sem, c3]
  · have hx : numV s n l N = 0 := by unfold numV; rw [if_neg (by omega)]
    rw [hx, show decide (1 ≤ N ∧ N ≤ 1099511627776) = false from decide_eq_false (by omega)]
    have hch := hch false
    generalize errV s n false = ev at *
    have HC := Lib.hid hch
    clear hw hx hva hch
    go_enter_defers Tryd.func61, Tryd.ntmps61
    have B0 : Below w.heap.size w (w.alloc (.cells #[.int .i64 0] 26)) := (Below.refl _ w).alloc (Nat.le_refl _) _
    have K0 : Blk (w.alloc (.cells #[.int .i64 0] 26)) w.heap.size 26 #[.int .i64 0] := Blk.new w 26 _
    go_wp2_with fail
    refine leaves_cons (f := 86) (args := #[.string s, .slice A n c, .bool false, .pointer (some ⟨w.heap.size, 0, none⟩)]) (by simp) (by simp [go_sem]) ?_
    refine (HC.out w.heap.size _ K0).mono ?_
    rintro E u' w3 ⟨rfl, rfl, K3, b3⟩
    have c3 : w3.cell? ⟨w.heap.size, 0, none⟩ = some (.int .i64 ev) := K3.at_ rfl
    refine ⟨.tuple #[.int .i64 0, .int .i64 ev], ?_, rfl, B0.trans (b3 _ (Nat.le_refl _))⟩
    simp [results, Tryd.results61, go_sem, c3]
end Go.Proofs.YtiajlglnefiemaaDoor
