/- The walks of package draw: Between, Coin, Pick at the examples. Conditions: the round constants lie in their variable. -/
import Derived.Test.YtiajlglnefiemaaDoorDb
import Derived.Laws.EntriesVeiled
import Derived.Deep.RegionHeld3
import Derived.Deep.QuietTactic
set_option linter.unusedSimpArgs false
set_option linter.unusedVariables false
namespace Go.Proofs.YtiajlglnefiemaaDoor
open Go.RowKit

theorem word_t : (wordN ⟨#[116]⟩ [3] 0).blt 281474976710655 = true := by kernel_rfl
/-- Between of 7 and 7 -/
theorem between_seven {s : ByteArray} {A : Option Addr} {n c : Nat} {l : List Int} {w : World} (h : Net s A n l w) (hv : validB s n = true) :
    Calls Tryd.prog 62 #[.string s, .slice A n c, .int .i64 7, .int .i64 7] w fun E W' => E = .returned (.tuple #[.int .i64 7, .int .i64 0]) ∧ Below w.heap.size w W' := by
  have hs : s.size ≤ 1000000 := by have := h.text; omega
  have hn : n ≤ 1000000 := by have := h.short; omega
  have hva := fun W => valid_any s A n c W hs hn
  have hch := fun g W => checked_any s A n c true g .returning W hs hn
  have hbl := fun W (hW : Net s A n l W) => below_first (c := c) hW 1 (by omega) (by omega) (by have := wordN_lt s l 0; omega)
  rw [Nat.mod_one] at hbl
  have hy : errV s n true = 0 := by unfold errV; rw [hv]; rfl
  rw [hy] at hch
  rw [hv] at hva
  have HB := Lib.hid hbl
  have HV := Lib.hid hva
  have HC := Lib.hid hch
  clear hy hbl hva hch hv
  go_enter_defers Tryd.func62, Tryd.ntmps62
  go_wp2_with fail
  refine (HV.out _).mono ?_
  rintro E w1 ⟨rfl, hw1⟩
  go_wp2_with fail
  have B0 : Below w.heap.size w (w.alloc (.cells #[.int .i64 0] 26)) := (Below.refl _ w).alloc (Nat.le_refl _) _
  have K0 : Blk (w.alloc (.cells #[.int .i64 0] 26)) w.heap.size 26 #[.int .i64 0] := Blk.new w 26 _
  refine (HB.out _ (h.below B0)).mono ?_
  rintro E w2 ⟨rfl, b2⟩
  have K2 := K0.thru b2
  have B2 := below_next B0 b2
  have f2 := K2.frozen 0
  have c2 : w2.cell? ⟨w.heap.size, 0, none⟩ = some (.int .i64 0) := K2.at_ rfl
  clear b2 K0 B0 hw1
  go_wp2_with fail
  refine leaves_cons (f := 86) (args := #[.string s, .slice A n c, .bool true, .pointer (some ⟨w.heap.size, 0, none⟩)]) (by simp) (by simp [go_sem]) ?_
  refine (HC.out w.heap.size _ (K2.set_ 0 (.int .i64 0))).mono ?_
  rintro E u' w3 ⟨rfl, rfl, K3, b3⟩
  have c3 : w3.cell? ⟨w.heap.size, 0, none⟩ = some (.int .i64 0) := K3.at_ rfl
  refine ⟨.tuple #[.int .i64 7, .int .i64 0], ?_, rfl, (B2.setCell (Nat.le_refl _) _).trans (b3 _ (Nat.le_refl _))⟩
  simp [results, Tryd.results62, go_sem, c3]
set_option maxRecDepth 100000 in
theorem ratio_zero (w : World) : Calls Tryd.prog 92 #[.agg #[.int .i64 0, .int .i64 0]] w fun E W' => E = .returned (.bool true) ∧ Below w.heap.size w W' := by
  go_enter Tryd.func92, Tryd.ntmps92
  go_wp2_with fail
  go_ret
  exact ⟨rfl, (Below.refl _ w).alloc (Nat.le_refl _) _⟩
set_option maxRecDepth 100000 in
theorem size_one (w : World) : Calls Tryd.prog 105 #[.int .i64 1] w fun E W' => E = .returned (.int .u64 1) ∧ W' = w := by
  go_enter Tryd.func105, Tryd.ntmps105
  go_wp2_with fail
  go_ret
  exact ⟨rfl, rfl⟩
set_option maxRecDepth 100000 in
theorem find_zero (p : Value) (w : World) : Calls Tryd.prog 114 #[.int .u64 1, .int .u64 0, p] w fun E W' => E = .returned (.int .u64 1) ∧ W' = w := by
  go_enter Tryd.func114, Tryd.ntmps114
  go_wp2_with fail
  go_ret
  exact ⟨rfl, rfl⟩
set_option maxRecDepth 100000 in
theorem find_one (g : Nat) (w : World) (t : TypeId) (h : Blk w g t #[.func (.func 114) #[] #[.pointer (some ⟨g, 0, none⟩)]]) :
    Calls Tryd.prog 114 #[.int .u64 1, .int .u64 1, .pointer (some ⟨g, 0, none⟩)] w fun E W' => E = .returned (.int .u64 1) ∧ Below w.heap.size w W' := by
  have hc : w.cell? ⟨g, 0, none⟩ = some (.func (.func 114) #[] #[.pointer (some ⟨g, 0, none⟩)]) := h.at_ rfl
  go_enter Tryd.func114, Tryd.ntmps114
  go_wp2_with fail
  go_quiet ((go_at_call 114; exact Calls.quiet_of_same (find_zero _ _)))
  go_wp2_with fail
  go_ret
  exact ⟨rfl, below_drewN (Below.refl _ w) _⟩
set_option maxRecDepth 100000 in
theorem gcd_one (w : World) : Calls Tryd.prog 104 #[.int .u64 1, .int .u64 1] w fun E W' => E = .returned (.int .u64 1) ∧ Below w.heap.size w W' := by
  have hmf : ∀ (fn : Fn) (first cap : Array Value) (w : World), (Instr.makeFunc fn first cap).run Tryd.prog w = .ok (.func fn first cap) w := fun _ _ _ _ => rfl
  go_enter Tryd.func104, Tryd.ntmps104
  go_wp2_with fail
  refine (find_one w.heap.size _ 125 (Blk.new w 125 _)).mono ?_
  rintro E w1 ⟨rfl, b1⟩
  go_wp2_with fail
  go_ret
  exact ⟨rfl, below_next ((Below.refl _ w).alloc (Nat.le_refl _) _) b1⟩
set_option maxRecDepth 100000 in
set_option maxHeartbeats 4000000 in
theorem ratio_one (w : World) : Calls Tryd.prog 92 #[.agg #[.int .i64 1, .int .i64 1]] w fun E W' => E = .returned (.bool true) ∧ Below w.heap.size w W' := by
  go_enter Tryd.func92, Tryd.ntmps92
  go_wp2_with fail
  have k0 := Blk.new w 91 #[.int .i64 1, .int .i64 1]
  have b0 := (Below.refl _ w).alloc (Nat.le_refl _) (.cells #[.int .i64 1, .int .i64 1] 91)
  generalize w.alloc (.cells #[.int .i64 1, .int .i64 1] 91) = w0 at *
  have c0 : w0.cell? ⟨w.heap.size, 0, none⟩ = some (.int .i64 1) := k0.at_ rfl
  have c1 : w0.cell? ⟨w.heap.size, 1, none⟩ = some (.int .i64 1) := k0.at_ rfl
  go_region_held3 (fun W => W.cell? ⟨w.heap.size, 0, none⟩ = some (.int .i64 1) ∧ W.cell? ⟨w.heap.size, 1, none⟩ = some (.int .i64 1))
    (first | exact ⟨c0, c1⟩ | exact ⟨d0, d1⟩)
    (first
      | (go_at_call 105; refine (size_one _).mono ?_; rintro E w1 ⟨rfl, rfl⟩)
      | (go_at_call 104; refine (gcd_one _).mono ?_; rintro E w2 ⟨rfl, b2⟩; have b3 := b0.drew.trans (b2.mono b0.size); have k2 := k0.drew.thru b2; have d0 : w2.cell? ⟨w.heap.size, 0, none⟩ = some (.int .i64 1) := k2.at_ rfl; have d1 : w2.cell? ⟨w.heap.size, 1, none⟩ = some (.int .i64 1) := k2.at_ rfl))
  go_wp2_with fail
  go_ret
  exact ⟨rfl, b3⟩
set_option maxRecDepth 100000 in
set_option maxHeartbeats 4000000 in
theorem coin_zero (s : ByteArray) (A : Option Addr) (n c : Nat) (w : World) (hs : s.size ≤ 1000000) (hn : n ≤ 1000000) (hv : validB s n = true) :
    Calls Tryd.prog 64 #[.string s, .slice A n c, .agg #[.int .i64 0, .int .i64 0]] w fun E W' => E = .returned (.tuple #[.bool false, .int .i64 0]) ∧ Below w.heap.size w W' := by
  have hva := fun W => valid_any s A n c W hs hn
  have hch := fun g W => checked_any s A n c true g .returning W hs hn
  have hy : errV s n true = 0 := by unfold errV; rw [hv]; rfl
  rw [hy] at hch
  rw [hv] at hva
  have HV := Lib.hid hva
  have HC := Lib.hid hch
  clear hy hva hch hv
  go_enter_defers Tryd.func64, Tryd.ntmps64
  go_wp2_with fail
  have B0 : Below w.heap.size w ((w.alloc (.cells #[.int .i64 0, .int .i64 0] 91)).alloc (.cells #[.int .i64 0] 26)) := ((Below.refl _ w).alloc (Nat.le_refl _) _).alloc (by simp) _
  have C0 : Blk ((w.alloc (.cells #[.int .i64 0, .int .i64 0] 91)).alloc (.cells #[.int .i64 0] 26)) w.heap.size 91 #[.int .i64 0, .int .i64 0] := (Blk.new w 91 _).alloc _
  have K0 : Blk ((w.alloc (.cells #[.int .i64 0, .int .i64 0] 91)).alloc (.cells #[.int .i64 0] 26)) (w.heap.size + 1) 26 #[.int .i64 0] := Blk.new' (by simp)
  refine (ratio_zero _).mono ?_
  rintro E w1 ⟨rfl, b1⟩
  have B1 := below_next B0 b1
  have C1 := C0.thru b1
  have K1 := K0.thru b1
  have c0 : w1.cell? ⟨w.heap.size, 0, none⟩ = some (.int .i64 0) := C1.at_ rfl
  have c1 : w1.cell? ⟨w.heap.size, 1, none⟩ = some (.int .i64 0) := C1.at_ rfl
  have e0 : w1.cell? ⟨w.heap.size + 1, 0, none⟩ = some (.int .i64 0) := K1.at_ rfl
  have f0 := K1.frozen 0
  go_wp2_with fail
  refine (HV.out _).mono ?_
  rintro E w2 ⟨rfl, rfl⟩
  go_wp2_with fail
  refine leaves_cons (f := 86) (args := #[.string s, .slice A n c, .bool true, .pointer (some ⟨w.heap.size + 1, 0, none⟩)]) (by simp) (by simp [go_sem]) ?_
  refine (HC.out (w.heap.size + 1) _ (K1.set_ 0 (.int .i64 0))).mono ?_
  rintro E u' w3 ⟨rfl, rfl, K3, b3⟩
  have c3 : w3.cell? ⟨w.heap.size + 1, 0, none⟩ = some (.int .i64 0) := K3.at_ rfl
  refine ⟨.tuple #[.bool false, .int .i64 0], ?_, rfl, (B1.setCell (Nat.le_succ _) _).trans (b3 _ (Nat.le_succ _))⟩
  simp [results, Tryd.results64, go_sem, c3]
set_option maxRecDepth 100000 in
set_option maxHeartbeats 4000000 in
theorem coin_one {s : ByteArray} {A : Option Addr} {n c : Nat} {l : List Int} {w : World} (h : Net s A n l w) (hv : validB s n = true) :
    Calls Tryd.prog 64 #[.string s, .slice A n c, .agg #[.int .i64 1, .int .i64 1]] w fun E W' => E = .returned (.tuple #[.bool true, .int .i64 0]) ∧ Below w.heap.size w W' := by
  have hs : s.size ≤ 1000000 := by have := h.text; omega
  have hn : n ≤ 1000000 := by have := h.short; omega
  have hva := fun W => valid_any s A n c W hs hn
  have hch := fun g W => checked_any s A n c true g .returning W hs hn
  have hbl := fun W (hW : Net s A n l W) => below_first (c := c) hW 1 (by omega) (by omega) (by have := wordN_lt s l 0; omega)
  rw [Nat.mod_one] at hbl
  have hy : errV s n true = 0 := by unfold errV; rw [hv]; rfl
  rw [hy] at hch
  rw [hv] at hva
  have HB := Lib.hid hbl
  have HV := Lib.hid hva
  have HC := Lib.hid hch
  clear hy hbl hva hch hv
  go_enter_defers Tryd.func64, Tryd.ntmps64
  go_wp2_with fail
  have B0 : Below w.heap.size w ((w.alloc (.cells #[.int .i64 1, .int .i64 1] 91)).alloc (.cells #[.int .i64 0] 26)) := ((Below.refl _ w).alloc (Nat.le_refl _) _).alloc (by simp) _
  have C0 : Blk ((w.alloc (.cells #[.int .i64 1, .int .i64 1] 91)).alloc (.cells #[.int .i64 0] 26)) w.heap.size 91 #[.int .i64 1, .int .i64 1] := (Blk.new w 91 _).alloc _
  have K0 : Blk ((w.alloc (.cells #[.int .i64 1, .int .i64 1] 91)).alloc (.cells #[.int .i64 0] 26)) (w.heap.size + 1) 26 #[.int .i64 0] := Blk.new' (by simp)
  refine (ratio_one _).mono ?_
  rintro E w1 ⟨rfl, b1⟩
  have B1 := below_next B0 b1
  have C1 := C0.thru b1
  have K1 := K0.thru b1
  clear B0 C0 K0 b1
  have c0 : w1.cell? ⟨w.heap.size, 0, none⟩ = some (.int .i64 1) := C1.at_ rfl
  have c1 : w1.cell? ⟨w.heap.size, 1, none⟩ = some (.int .i64 1) := C1.at_ rfl
  go_wp2_with fail
  refine (HV.out _).mono ?_
  rintro E w2 ⟨rfl, rfl⟩
  go_wp2_with fail
  have hB1 := below_drewN B1 1
  change Below w.heap.size w w2.drew at hB1
  go_region_held3 (fun W => W.cell? ⟨w.heap.size, 0, none⟩ = some (.int .i64 1) ∧ W.cell? ⟨w.heap.size, 1, none⟩ = some (.int .i64 1))
    (first | exact ⟨c0, c1⟩ | exact ⟨d0, d1⟩)
    (first | (go_at_call 88; refine (HB.out w2.drew (h.below hB1)).mono ?_; rintro E w4 ⟨rfl, b4⟩; have C4 := C1.drew.thru b4; have K4 := K1.drew.thru b4; have B4 := below_next hB1 b4; have d0 : w4.cell? ⟨w.heap.size, 0, none⟩ = some (.int .i64 1) := C4.at_ rfl; have d1 : w4.cell? ⟨w.heap.size, 1, none⟩ = some (.int .i64 1) := C4.at_ rfl))
  have e0 : w4.cell? ⟨w.heap.size + 1, 0, none⟩ = some (.int .i64 0) := K4.at_ rfl
  have f0 := K4.frozen 0
  go_wp2_with fail
  refine leaves_cons (f := 86) (args := #[.string s, .slice A n c, .bool true, .pointer (some ⟨w.heap.size + 1, 0, none⟩)]) (by simp) (by simp [go_sem]) ?_
  refine (HC.out (w.heap.size + 1) _ (K4.set_ 0 (.int .i64 0))).mono ?_
  rintro E u' w3 ⟨rfl, rfl, K3, b3⟩
  have c3 : w3.cell? ⟨w.heap.size + 1, 0, none⟩ = some (.int .i64 0) := K3.at_ rfl
  refine ⟨.tuple #[.bool true, .int .i64 0], ?_, rfl, (B4.setCell (Nat.le_succ _) _).trans (b3 _ (Nat.le_succ _))⟩
  simp [results, Tryd.results64, go_sem, c3]
/-! Pick -/
set_option maxRecDepth 100000 in
theorem odd_any (x : Int) (w : World) (h0 : 0 ≤ x) (h1 : x ≤ 1048576) : Calls Tryd.prog 89 #[.int .i64 x] w fun E W' => E = .returned (.bool false) ∧ W' = w := by
  have d0 : decide (x < 0) = false := decide_eq_false (by omega)
  have d1 : decide (1048576 < x) = false := decide_eq_false (by omega)
  go_enter Tryd.func89, Tryd.ntmps89
  go_wp2_with fail
  go_ret
  exact ⟨rfl, rfl⟩
set_option maxRecDepth 100000 in
set_option maxHeartbeats 2000000 in
theorem indexFunc_no (A : Option Addr) (n c : Nat) (l : List Int) (b : Nat) (w : World) (hl : Reads w b 1 A n (ints l)) (hn : n ≤ 1000000) (hx : ∀ x ∈ l, 0 ≤ x ∧ x ≤ 1048576) :
    Calls Tryd.prog 103 #[.slice A n c, .func (.func 89) #[] #[]] w fun E W' => E = .returned (.int .i64 (-1)) ∧ W' = w := by
  have el := hl.int_len
  go_enter Tryd.func103, Tryd.ntmps103
  go_wp2_with fail
  go_loopw [8] (fun i wr => ∃ k : Nat, k ≤ n ∧ i = .int .i64 k ∧ wr = w) (fun i _ => n - (intOf i).toNat)
  case atStart => exact ⟨0, by omega, rfl, rfl⟩
  case round =>
    obtain ⟨k, hk, rfl, rfl⟩ := hrel
    by_cases hlt : k < n
    · obtain ⟨a1, rfl, -, -, c1⟩ := hl.int_at hlt
      have hki : (k : Int) < (n : Int) := by omega
      have hb : 0 ≤ l[k]?.getD 0 ∧ l[k]?.getD 0 ≤ 1048576 := by
        rw [List.getElem?_eq_getElem (by omega)]
        exact hx _ (List.getElem_mem _)
      generalize l[k]?.getD 0 = x at *
      go_wp2_with fail
      refine (odd_any x _ hb.1 hb.2).mono ?_
      rintro E w1 ⟨rfl, rfl⟩
      go_wp2_with fail
      go_roundw
      case rel => exact ⟨k + 1, by omega, by go_num, trivial⟩
      case measure => simp [intOf]; omega
    · have hki : ¬ (k : Int) < (n : Int) := by omega
      go_wp2_with fail
      go_ret
      exact ⟨rfl, rfl⟩
set_option maxRecDepth 100000 in
set_option maxHeartbeats 2000000 in
theorem containsFunc_no (A : Option Addr) (n c : Nat) (l : List Int) (b : Nat) (w : World) (hl : Reads w b 1 A n (ints l)) (hn : n ≤ 1000000) (hx : ∀ x ∈ l, 0 ≤ x ∧ x ≤ 1048576) :
    Calls Tryd.prog 90 #[.slice A n c, .func (.func 89) #[] #[]] w fun E W' => E = .returned (.bool false) ∧ W' = w := by
  go_enter Tryd.func90, Tryd.ntmps90
  go_wp2_with fail
  refine (indexFunc_no A n c l b w hl hn hx).mono ?_
  rintro E w1 ⟨rfl, rfl⟩
  go_wp2_with fail
  go_ret
  exact ⟨rfl, rfl⟩
set_option maxRecDepth 100000 in
set_option maxHeartbeats 2000000 in
theorem sum_three (g c : Nat) (w : World) (h0 : w.cell? ⟨g, 0, none⟩ = some (.int .i64 0)) (h1 : w.cell? ⟨g, 1, none⟩ = some (.int .i64 5)) (h2 : w.cell? ⟨g, 2, none⟩ = some (.int .i64 0)) :
    Calls Tryd.prog 91 #[.slice (some ⟨g, 0, none⟩) 3 c] w fun E W' => E = .returned (.int .i64 5) ∧ W' = w := by
  go_enter Tryd.func91, Tryd.ntmps91
  go_wp2_with fail
  go_loopw [3, 8] (fun v i wr => wr = w ∧ ((v = .int .i64 0 ∧ i = .int .i64 0) ∨ (v = .int .i64 0 ∧ i = .int .i64 1) ∨ (v = .int .i64 5 ∧ i = .int .i64 2) ∨ (v = .int .i64 5 ∧ i = .int .i64 3))) (fun _ i _ => 3 - (intOf i).toNat)
  case atStart => exact ⟨rfl, .inl ⟨rfl, rfl⟩⟩
  case round =>
    obtain ⟨rfl, ⟨rfl, rfl⟩ | ⟨rfl, rfl⟩ | ⟨rfl, rfl⟩ | ⟨rfl, rfl⟩⟩ := hrel
    · go_wp2_with fail
      go_roundw
      case rel => exact ⟨trivial, .inr (.inl ⟨rfl, rfl⟩)⟩
      case measure => simp [intOf]
    · go_wp2_with fail
      go_roundw
      case rel => exact ⟨trivial, .inr (.inr (.inl ⟨rfl, rfl⟩))⟩
      case measure => simp [intOf]
    · go_wp2_with fail
      go_roundw
      case rel => exact ⟨trivial, .inr (.inr (.inr ⟨rfl, rfl⟩))⟩
      case measure => simp [intOf]
    · go_wp2_with fail
      go_ret
      exact ⟨rfl, rfl⟩
set_option maxRecDepth 100000 in
set_option maxHeartbeats 4000000 in
theorem pick_three {s : ByteArray} {A : Option Addr} {n c : Nat} {l : List Int} {w : World} (g d : Nat) (h : Net s A n l w) (hv : validB s n = true) (hw : wordN s l 0 < 281474976710655) (hL : Reads w w.heap.size 1 (some ⟨g, 0, none⟩) 3 (ints [0, 5, 0])) :
    Calls Tryd.prog 63 #[.string s, .slice A n c, .slice (some ⟨g, 0, none⟩) 3 d] w fun E W' => E = .returned (.tuple #[.int .i64 1, .int .i64 0]) ∧ Below w.heap.size w W' := by
  have hs : s.size ≤ 1000000 := by have := h.text; omega
  have hn : n ≤ 1000000 := by have := h.short; omega
  have hva := fun W => valid_any s A n c W hs hn
  have hch := fun g W => checked_any s A n c true g .returning W hs hn
  have hbl := fun W (hW : Net s A n l W) => below_first (c := c) hW 5 (by omega) (by omega) (by omega)
  have hx5 : wordN s l 0 % 5 < 5 := Nat.mod_lt _ (by omega)
  generalize wordN s l 0 % 5 = x at *
  have hy : errV s n true = 0 := by unfold errV; rw [hv]; rfl
  rw [hy] at hch
  rw [hv] at hva
  have HB := Lib.hid hbl
  have HV := Lib.hid hva
  have HC := Lib.hid hch
  clear hy hbl hva hch hv
  have cells : ∀ W : World, Reads W W.heap.size 1 (some ⟨g, 0, none⟩) 3 (ints [0, 5, 0]) → W.cell? ⟨g, 0, none⟩ = some (.int .i64 0) ∧ W.cell? ⟨g, 1, none⟩ = some (.int .i64 5) ∧ W.cell? ⟨g, 2, none⟩ = some (.int .i64 0) := fun W hr => by
    obtain ⟨a, ha, -, -, c0⟩ := hr.int_at (show 0 < 3 by omega)
    cases ha
    obtain ⟨a, ha, -, -, c1⟩ := hr.int_at (show 1 < 3 by omega)
    cases ha
    obtain ⟨a, ha, -, -, c2⟩ := hr.int_at (show 2 < 3 by omega)
    cases ha
    exact ⟨c0, c1, c2⟩
  have CS := Lib.hid cells
  clear cells
  have hmf : ∀ (fn : Fn) (first cap : Array Value) (w : World), (Instr.makeFunc fn first cap).run Tryd.prog w = .ok (.func fn first cap) w := fun _ _ _ _ => rfl
  go_enter_defers Tryd.func63, Tryd.ntmps63
  go_wp2_with fail
  have B0 : Below w.heap.size w (w.alloc (.cells #[.int .i64 0] 26)) := (Below.refl _ w).alloc (Nat.le_refl _) _
  have K0 : Blk (w.alloc (.cells #[.int .i64 0] 26)) w.heap.size 26 #[.int .i64 0] := Blk.new w 26 _
  have L0 := (hL.below B0).more B0.size
  generalize w.alloc (.cells #[.int .i64 0] 26) = w0 at *
  refine (containsFunc_no _ _ _ [0, 5, 0] w0.heap.size w0 L0 (by omega) (by simp)).mono ?_
  rintro E w1 ⟨rfl, rfl⟩
  go_wp2_with fail
  refine (sum_three g d w1 (CS.out _ L0).1 (CS.out _ L0).2.1 (CS.out _ L0).2.2).mono ?_
  rintro E w2 ⟨rfl, rfl⟩
  go_wp2_with fail
  refine (HV.out _).mono ?_
  rintro E w3 ⟨rfl, rfl⟩
  go_wp2_with fail
  refine (sum_three g d w3 (CS.out _ L0).1 (CS.out _ L0).2.1 (CS.out _ L0).2.2).mono ?_
  rintro E w4 ⟨rfl, rfl⟩
  go_wp2_with fail
  refine (HB.out w4 (h.below B0)).mono ?_
  rintro E w5 ⟨rfl, b5⟩
  have L5 := (L0.below b5).more b5.size
  have K5 := K0.thru b5
  have B5 := below_next B0 b5
  clear L0 K0 B0 b5
  have CC := Lib.hid (fun q => CS.out (w5.drewN q) (L5.drewN q))
  have e0 : ∀ q, (w5.drewN q).cell? ⟨w.heap.size, 0, none⟩ = some (.int .i64 0) := fun q => K5.at_ rfl
  have f0 : ∀ q, (w5.drewN q).frozen? ⟨w.heap.size, 0, none⟩ = false := fun q => K5.frozen 0
  have EE := Lib.hid e0
  have FF := Lib.hid f0
  clear e0 f0
  go_wp2_with fail
  go_loopw [6, 10] (fun v i wr => i = .int .i64 (x : Int) ∧ (∃ q, wr = w5.drewN q) ∧ (v = .int .i64 0 ∨ v = .int .i64 1)) (fun v _ _ => 1 - (intOf v).toNat)
  case atStart => exact ⟨rfl, ⟨0, rfl⟩, .inl rfl⟩
  case round =>
    obtain ⟨rfl, ⟨q, rfl⟩, rfl | rfl⟩ := hrel
    · obtain ⟨c0, c1, c2⟩ := CC.out q
      have hx0 : (0 : Int) ≤ (x : Int) := by omega
      go_wp2_with fail
      all_goals
        go_roundw
        case rel => exact ⟨rfl, ⟨_, rfl⟩, .inr rfl⟩
        case measure => simp [intOf]
    · obtain ⟨c0, c1, c2⟩ := CC.out q
      have hx0 : ¬ (5 : Int) ≤ (x : Int) := by omega
      have e0 := EE.out q
      have f0 := FF.out q
      have K6 := K5.drewN q
      have B6 := below_drewN B5 q
      generalize w5.drewN q = w6 at *
      go_wp2_with fail
      all_goals
        refine leaves_cons (f := 86) (args := #[.string s, .slice A n c, .bool true, .pointer (some ⟨w.heap.size, 0, none⟩)]) (by simp) (by simp [go_sem]) ?_
        refine (HC.out w.heap.size _ (K6.set_ 0 (.int .i64 0))).mono ?_
        rintro E u' w3 ⟨rfl, rfl, K3, b3⟩
        have c3 : w3.cell? ⟨w.heap.size, 0, none⟩ = some (.int .i64 0) := K3.at_ rfl
        refine ⟨.tuple #[.int .i64 1, .int .i64 0], ?_, rfl, (B6.setCell (Nat.le_refl _) _).trans (b3 _ (Nat.le_refl _))⟩
        simp [results, Tryd.results63, go_sem, c3]
end Go.Proofs.YtiajlglnefiemaaDoor
