/- The walk of draw.Between where one or two numbers are asked for. Conditions: the seed and the path are short; the round constants lie in their variable. -/
import Derived.Test.YtnionejefpnfoaaDoorDg
import Derived.Laws.EntriesVeiled
import Derived.Deep.RegionHeld3
import Derived.Deep.QuietTactic
set_option linter.unusedSimpArgs false
set_option linter.unusedVariables false
namespace Go.Proofs.YtnionejefpnfoaaDoor
open Go.RowKit

/-- the word that a draw of M numbers takes, where it is one of the first two -/
def tryN (s : ByteArray) (l : List Int) (M : Nat) : Nat := if wordN s l 0 < 281474976710656 / M * M then wordN s l 0 else wordN s l 1
/-- one of the first two words is taken -/
def Acc (s : ByteArray) (l : List Int) (M : Nat) : Prop := ∃ K, K ≤ 1 ∧ (∀ j : Nat, j < K → 281474976710656 / M * M ≤ wordN s l (j : Int)) ∧ wordN s l (K : Int) < 281474976710656 / M * M
theorem acc_first {s : ByteArray} {l : List Int} {M : Nat} (h : wordN s l 0 < 281474976710656 / M * M) : Acc s l M := ⟨0, by decide, fun j hj => absurd hj (by omega), h⟩
theorem Acc.eq {s : ByteArray} {l : List Int} {M : Nat} (h : Acc s l M) : ∃ K : Nat, K ≤ 1000000 ∧ (∀ j : Nat, j < K → 281474976710656 / M * M ≤ wordN s l (j : Int)) ∧ wordN s l (K : Int) < 281474976710656 / M * M ∧ tryN s l M = wordN s l (K : Int) := by
  obtain ⟨K, h1, h2, h3⟩ := h
  refine ⟨K, by omega, h2, h3, ?_⟩
  unfold tryN
  obtain rfl | rfl : K = 0 ∨ K = 1 := by omega
  · exact if_pos h3
  · have h4 : 281474976710656 / M * M ≤ wordN s l 0 := h2 0 (by decide)
    exact if_neg (by omega)
/-- what Between gives where one of the first two words is taken -/
def drawV (s : ByteArray) (l : List Int) (lo hi : Int) : Int := lo + ((tryN s l (hi - lo + 1).toNat % (hi - lo + 1).toNat : Nat) : Int)
theorem drawV_one (s : ByteArray) (l : List Int) (lo : Int) : drawV s l lo lo = lo := by
  unfold drawV
  rw [show (lo - lo + 1).toNat = 1 by omega, Nat.mod_one]
  omega
theorem drawV_two (s : ByteArray) (l : List Int) (lo : Int) : lo ≤ drawV s l lo (lo + 1) ∧ drawV s l lo (lo + 1) ≤ lo + 1 := by
  unfold drawV
  rw [show (lo + 1 - lo + 1).toNat = 2 by omega]
  have := Nat.mod_lt (tryN s l 2) (y := 2) (by omega)
  omega
theorem word_few (s : ByteArray) (l : List Int) {N : Nat} (hN : N = 1 ∨ N = 2) : wordN s l 0 < 281474976710656 / N * N := by
  have := wordN_lt s l 0
  rcases hN with rfl | rfl
  · omega
  · omega
set_option maxRecDepth 100000 in
set_option maxHeartbeats 4000000 in
theorem between_acc {s : ByteArray} {A : Option Addr} {n c : Nat} {l : List Int} {w : World} (h : Net s A n l w) (hv : validB s n = true) (lo hi : Int) (h0 : -1099511627776 ≤ lo) (h1 : hi ≤ 1099511627776) (hle : lo ≤ hi) (hlt : hi - lo < 1099511627776) (hwd : Acc s l (hi - lo + 1).toNat) :
    Calls Tryd.prog 28 #[.string s, .slice A n c, .int .i64 lo, .int .i64 hi] w fun E W' => E = .returned (.tuple #[.int .i64 (drawV s l lo hi), .int .i64 0]) ∧ Below w.heap.size w W' := by
  have hs : s.size ≤ 1000000 := by have := h.text; omega
  have hn : n ≤ 1000000 := by have := h.short; omega
  have hva := fun W => valid_any s A n c W hs hn
  have hch := fun g W => checked_any s A n c true g .returning W hs hn
  obtain ⟨M, hM⟩ : ∃ M : Nat, M = (hi - lo + 1).toNat := ⟨_, rfl⟩
  have hM1 : 1 ≤ M ∧ M ≤ 1099511627776 := by omega
  have hMi : hi - lo + 1 = (M : Int) := by omega
  rw [← hM] at hwd
  obtain ⟨K, q0, q1, q2, q3⟩ := hwd.eq
  have hbl := fun W (hW : Net s A n l W) => below_k (c := c) hW M (by omega) (by omega) K q0 q1 q2
  have hx : drawV s l lo hi = lo + ((wordN s l (K : Int) % M : Nat) : Int) := by unfold drawV; rw [← hM, q3]
  have hxm : wordN s l (K : Int) % M < M := Nat.mod_lt _ (by omega)
  rw [hx]
  generalize wordN s l (K : Int) % M = x at *
  clear q0 q1 q2 q3 hwd
  have hy : errV s n true = 0 := by unfold errV; rw [hv]; rfl
  rw [hy] at hch
  rw [hv] at hva
  have q1 : IntKind.i64.wrap (hi - lo) = hi - lo := by rw [IntKind.wrap_i64]; omega
  have q2 : IntKind.i64.wrap (hi - lo + 1) = (M : Int) := by rw [hMi, IntKind.wrap_i64]; omega
  have q3 : IntKind.i64.wrap (lo + (x : Int)) = lo + (x : Int) := by rw [IntKind.wrap_i64]; omega
  have g2 : hi ≤ 1099511627776 := h1
  have g3 : lo ≤ hi := by omega
  have g4 : hi - lo < 1099511627776 := by omega
  have HB := Lib.hid hbl
  have HV := Lib.hid hva
  have HC := Lib.hid hch
  clear hy hbl hva hch hv hx hM hMi hM1 hle hlt hxm
  go_enter_defers Tryd.func28, Tryd.ntmps28
  go_wp2_with fail
  refine (HV.out _).mono ?_
  rintro E w1 ⟨rfl, hw1⟩
  go_wp2_with fail
  have B0 : Below w.heap.size w (w.alloc (.cells #[.int .i64 0] 30)) := (Below.refl _ w).alloc (Nat.le_refl _) _
  have K0 : Blk (w.alloc (.cells #[.int .i64 0] 30)) w.heap.size 30 #[.int .i64 0] := Blk.new w 30 _
  refine (HB.out _ (h.below B0)).mono ?_
  rintro E w2 ⟨rfl, b2⟩
  have K2 := K0.thru b2
  have B2 := below_next B0 b2
  have f2 := K2.frozen 0
  have c2 : w2.cell? ⟨w.heap.size, 0, none⟩ = some (.int .i64 0) := K2.at_ rfl
  clear b2 K0 B0 hw1
  go_wp2_with fail
  refine leaves_cons (f := 33) (args := #[.string s, .slice A n c, .bool true, .pointer (some ⟨w.heap.size, 0, none⟩)]) (by simp) (by simp [go_sem]) ?_
  refine (HC.out w.heap.size _ (K2.set_ 0 (.int .i64 0))).mono ?_
  rintro E u' w3 ⟨rfl, rfl, K3, b3⟩
  have c3 : w3.cell? ⟨w.heap.size, 0, none⟩ = some (.int .i64 0) := K3.at_ rfl
  refine ⟨.tuple #[.int .i64 (lo + (x : Int)), .int .i64 0], ?_, rfl, (B2.setCell (Nat.le_refl _) _).trans (b3 _ (Nat.le_refl _))⟩
  simp [results, Tryd.results28, go_sem, c3]
theorem between_w {s : ByteArray} {A : Option Addr} {n c : Nat} {l : List Int} {w : World} (h : Net s A n l w) (hv : validB s n = true) (lo hi : Int) (h0 : -1099511627776 ≤ lo) (h1 : hi ≤ 1099511627776) (hle : lo ≤ hi) (hlt : hi - lo < 1099511627776) (hwd : wordN s l 0 < 281474976710656 / (hi - lo + 1).toNat * (hi - lo + 1).toNat) :
    Calls Tryd.prog 28 #[.string s, .slice A n c, .int .i64 lo, .int .i64 hi] w fun E W' => E = .returned (.tuple #[.int .i64 (drawV s l lo hi), .int .i64 0]) ∧ Below w.heap.size w W' :=
  between_acc h hv lo hi h0 h1 hle hlt (acc_first hwd)
theorem between_any {s : ByteArray} {A : Option Addr} {n c : Nat} {l : List Int} {w : World} (h : Net s A n l w) (hv : validB s n = true) (lo hi : Int) (h0 : -1099511627776 ≤ lo) (h1 : hi ≤ 1099511627776) (hd : hi = lo ∨ hi = lo + 1) :
    Calls Tryd.prog 28 #[.string s, .slice A n c, .int .i64 lo, .int .i64 hi] w fun E W' => E = .returned (.tuple #[.int .i64 (drawV s l lo hi), .int .i64 0]) ∧ Below w.heap.size w W' :=
  between_w h hv lo hi h0 h1 (by omega) (by omega) (word_few s l (by omega))
theorem drawV_in (s : ByteArray) (l : List Int) {lo hi : Int} (h : lo ≤ hi) : lo ≤ drawV s l lo hi ∧ drawV s l lo hi ≤ hi := by
  unfold drawV
  have := Nat.mod_lt (tryN s l (hi - lo + 1).toNat) (y := (hi - lo + 1).toNat) (by omega)
  omega
/-- a word that is not among the last 65536 is accepted wherever at most 65536 numbers are asked for -/
theorem acc_of {w M : Nat} (h : w < 281474976645120) (h1 : 1 ≤ M) (h2 : M ≤ 65536) : w < 281474976710656 / M * M := by
  have e := Nat.div_add_mod 281474976710656 M
  have := Nat.mod_lt 281474976710656 (y := M) (by omega)
  rw [Nat.mul_comm] at e
  omega
end Go.Proofs.YtnionejefpnfoaaDoor
