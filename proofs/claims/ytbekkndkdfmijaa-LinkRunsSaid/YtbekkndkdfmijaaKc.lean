/- The seal of bytes. Conditions: the bytes are at most a million. -/
import Derived.Test.YtbekkndkdfmijaaKb
import Derived.Lib.AppendZeros
import Derived.Deep.RegionHeld3
set_option linter.unusedSimpArgs false
set_option linter.unusedVariables false
namespace Go.Proofs.Ytbekkndkdfmijaa
open Go.RowKit

section
variable {w w' : World} {g g' : Nat} {t : TypeId} {cs : Array Value}
theorem Blk.row (h : Blk w g t cs) (cs' : Array Value) : Blk (w.setRow g cs') g t cs' := setRow_heap w g cs cs' t (0, 0) h
theorem Blk.rowFar (h : Blk w g t cs) (hn : g ≠ g') (cs' : Array Value) : Blk (w.setRow g' cs') g t cs := (setRow_other w g' g cs' hn).trans h
theorem below_setRow {B : Nat} (h : Below B w w') (hg : B ≤ g) (cs' : Array Value) : Below B w (w'.setRow g cs') :=
  ⟨h.os, h.tape, h.output, by rw [setRow_size]; exact h.size, fun b hb => (setRow_other w' g b cs' (by omega)).trans (h.block b hb)⟩
end
theorem info79 : (Try.prog.info? 79).map (·.size) = some 8 := by kernel_rfl
/-- eight bytes as cells -/
def u8V (f : Nat → Int) : Array Value := #[.int .u8 (f 0), .int .u8 (f 1), .int .u8 (f 2), .int .u8 (f 3), .int .u8 (f 4), .int .u8 (f 5), .int .u8 (f 6), .int .u8 (f 7)]
theorem u8V_set (f : Nat → Int) {j : Nat} (hj : j < 8) (v : Int) : (u8V f).setIfInBounds j (.int .u8 v) = u8V (fun s => if s = j then v else f s) := by
  have : j = 0 ∨ j = 1 ∨ j = 2 ∨ j = 3 ∨ j = 4 ∨ j = 5 ∨ j = 6 ∨ j = 7 := by omega
  rcases this with rfl | rfl | rfl | rfl | rfl | rfl | rfl | rfl <;> rfl
theorem u8V_at (f : Nat → Int) {j : Nat} (hj : j < 8) : (u8V f)[j]? = some (.int .u8 (f j)) := by
  have : j = 0 ∨ j = 1 ∨ j = 2 ∨ j = 3 ∨ j = 4 ∨ j = 5 ∨ j = 6 ∨ j = 7 := by omega
  rcases this with rfl | rfl | rfl | rfl | rfl | rfl | rfl | rfl <;> rfl
/-- the seal's bytes as far as they are written -/
def sealTo (m j : Nat) (i : Nat) : Int := if i < j then ((byt (m / 256 ^ i % 256)).toNat : Int) else 0
theorem sealTo_set (m : Nat) {j : Nat} (hj : j < 8) {v : Int} (hv : v = ((byt (m / 256 ^ j % 256)).toNat : Int)) : (u8V (sealTo m j)).setIfInBounds j (.int .u8 v) = u8V (sealTo m (j + 1)) := by
  rw [u8V_set _ hj]
  congr 1
  funext s
  unfold sealTo
  by_cases e : s = j
  · subst e; rw [if_pos rfl, if_pos (by omega), hv]
  · rw [if_neg e]
    by_cases h : s < j
    · rw [if_pos h, if_pos (by omega)]
    · rw [if_neg h, if_neg (by omega)]
theorem sealTo_all (m : Nat) : u8V (sealTo m 8) = (bytesV (lowTo m 8)).toArray := rfl
theorem seal_size (key : Nat) (l : List UInt8) : (bytesV (sealB key l)).toArray.size = 8 := by rw [List.size_toArray, bytesV_length, lowTo_length]
theorem xor_nat64 {a b : Nat} (ha : a < 18446744073709551616) (hb : b < 18446744073709551616) : bits .xor .u64 (a : Int) (b : Int) = ((a ^^^ b : Nat) : Int) := u64_xor_nat a b ha hb
theorem step_int {h c : Nat} : IntKind.u64.wrap (((h ^^^ c : Nat) : Int) * 1099511628211) = (sstep h c : Int) := by
  rw [IntKind.wrap_u64]
  unfold sstep
  omega
theorem shr_byte (m j : Nat) : (m : Int) / 2 ^ (8 * j) % 256 = ((byt (m / 256 ^ j % 256)).toNat : Int) := by
  rw [pow_256, byt_toNat (Nat.mod_lt _ (by omega))]
  simp
set_option maxRecDepth 100000 in
set_option maxHeartbeats 2000000 in
theorem seal_any (key : Nat) (A : Option Addr) (n c : Nat) (l : List UInt8) (w : World) (hk : key < 18446744073709551616) (hl : Reads w w.heap.size 1 A n (bytesV l)) (hn : n ≤ 1000000) :
    Calls Try.prog 41 #[.int .u64 (key : Int), .slice A n c] w fun e W' => e = .returned (.agg (bytesV (sealB key l)).toArray) ∧ Below w.heap.size w W' := by
  have el := hl.byte_len
  have x0 : bits .xor .u64 14695981039346656037 (key : Int) = ((14695981039346656037 ^^^ key : Nat) : Int) := xor_nat64 (a := 14695981039346656037) (by decide) hk
  have hB := (Below.refl w.heap.size w).alloc (Nat.le_refl _) (.cells #[.int .u8 0, .int .u8 0, .int .u8 0, .int .u8 0, .int .u8 0, .int .u8 0, .int .u8 0, .int .u8 0] 79)
  have k0 := Blk.new w 79 #[.int .u8 0, .int .u8 0, .int .u8 0, .int .u8 0, .int .u8 0, .int .u8 0, .int .u8 0, .int .u8 0]
  go_enter Try.func41, Try.ntmps41
  go_wp2_with fail
  generalize w.alloc (.cells #[.int .u8 0, .int .u8 0, .int .u8 0, .int .u8 0, .int .u8 0, .int .u8 0, .int .u8 0, .int .u8 0] 79) = w1 at *
  go_loopw [5, 14] (fun h i wr => ∃ j : Nat, j ≤ n ∧ h = .int .u64 (sealH key (l.take j) : Int) ∧ i = .int .i64 (j : Int) ∧ Drawn w1 wr) (fun _ i _ => n - (intOf i).toNat)
  case atStart => exact ⟨0, by omega, by rw [List.take_zero, sealH_nil], rfl, 0, rfl⟩
  case round =>
    obtain ⟨j, hj, rfl, rfl, q, rfl⟩ := hrel
    by_cases hlt : j < n
    · have hji : (j : Int) < (n : Int) := by omega
      obtain ⟨ad, rfl, had, -, hc⟩ := (hl.below (hB.trans (below_drewN' (Below.refl _ w1) q))).byte_at hlt
      have hst := sealH_take (k := key) l (j := j) (by omega)
      have HST := Lib.hid hst
      have hlt64 := sealH_lt (l.take j) hk
      clear hst
      generalize sealH key (l.take j) = H at *
      generalize l[j]?.getD 0 = C at *
      have hx := xor_nat64 hlt64 (u8_64 C)
      have hs := @step_int H C.toNat
      have hwc : IntKind.u64.wrap (C.toNat : Int) = C.toNat := by rw [IntKind.wrap_u64]; have := C.toNat_lt; omega
      go_wp2_with fail
      go_roundw
      case rel => exact ⟨j + 1, by omega, by rw [HST.out], by go_num, _, rfl⟩
      case measure => simp [intOf]; omega
    · obtain rfl : j = n := by omega
      have hji : ¬ (j : Int) < (j : Int) := by omega
      rw [List.take_of_length_le (by omega)]
      have hlt64 := sealH_lt l hk
      have hb1 := hB.trans (below_drewN' (Below.refl _ w1) q)
      have hg := hb1.size
      go_wp2_with fail
      have k8 := Blk.new (w1.drewN q) 79 (u8V (sealTo (sealH key l) 0))
      have hb2 := hb1.alloc hb1.size (.cells (u8V (sealTo (sealH key l) 0)) 79)
      have k4 := (k0.drewN q).alloc (.cells (u8V (sealTo (sealH key l) 0)) 79)
      have hne : w.heap.size ≠ w1.heap.size := by have := k0.lt; omega
      have hg8 : (w1.drewN q).heap.size = w1.heap.size := rfl
      rw [hg8] at k8
      have hga : w.heap.size ≤ w1.heap.size := hg
      rw [show (w1.drewN q).alloc (.cells #[.int .u8 0, .int .u8 0, .int .u8 0, .int .u8 0, .int .u8 0, .int .u8 0, .int .u8 0, .int .u8 0] 79) = (w1.drewN q).alloc (.cells (u8V (sealTo (sealH key l) 0)) 79) from rfl]
      generalize (w1.drewN q).alloc (.cells (u8V (sealTo (sealH key l) 0)) 79) = w2 at *
      generalize w1.heap.size = g8 at *
      clear hb1 hl k0
      go_loopw [24] (fun i wr => ∃ j : Nat, j ≤ 8 ∧ i = .int .i64 (j : Int) ∧ Blk wr g8 79 (u8V (sealTo (sealH key l) j)) ∧ Blk wr w.heap.size 79 (u8V fun _ => 0) ∧ Below w.heap.size w wr) (fun i _ => 8 - (intOf i).toNat)
      case atStart => exact ⟨0, by omega, rfl, k8, k4, hb2⟩
      case round =>
        clear k8 k4 hb2
        obtain ⟨j, hj, rfl, k8, k4, hb⟩ := hrel
        by_cases hlt : j < 8
        · have hji : (j : Int) < 8 := by omega
          have hsb := shr_byte (sealH key l) j
          have hnew := k8.set_ j (.int .u8 ((byt (sealH key l / 256 ^ j % 256)).toNat : Int))
          rw [sealTo_set _ hlt rfl] at hnew
          have k4n := k4.far (p := ⟨g8, j, none⟩) hne (.int .u8 ((byt (sealH key l / 256 ^ j % 256)).toNat : Int))
          have hbn := hb.setCell (p := ⟨g8, j, none⟩) hga (.int .u8 ((byt (sealH key l / 256 ^ j % 256)).toNat : Int))
          have fz := k8.frozen j
          have cx : wr.cell? ⟨g8, j, none⟩ = some (.int .u8 (sealTo (sealH key l) j j)) := k8.at_ (u8V_at _ hlt)
          generalize sealH key l = H at *
          generalize ((byt (H / 256 ^ j % 256)).toNat : Int) = B at *
          go_wp2_with fail
          exact ⟨⟨j + 1, by omega, by go_num, hnew, k4n, hbn⟩, by simp [intOf]; omega⟩
        · obtain rfl : j = 8 := by omega
          have hji : ¬ (8 : Int) < 8 := by omega
          rw [sealTo_all] at k8
          obtain ⟨C, hC⟩ : ∃ C, C = (bytesV (sealB key l)).toArray := ⟨_, rfl⟩
          have HC := Lib.hid hC
          rw [← hC] at k8
          have G1 : Hid ((Try.prog.info? 79).map (·.size) = some C.size) := Lib.hid (by rw [info79, hC, List.size_toArray, bytesV_length, lowTo_length])
          have G2 : Hid ((u8V fun _ => 0).size = C.size) := Lib.hid (by rw [hC, seal_size]; rfl)
          have G3 : Hid (C.all (·.oneCell') = true) := Lib.hid (by
            rw [hC, Array.all_eq_true']
            intro x hx
            exact bytesV_one _ x (by simpa using hx))
          clear hC
          have h8 : wr.heap[g8]? = some (.cells C 79 (0, 0)) := k8
          have h4 : wr.heap[w.heap.size]? = some (.cells (u8V fun _ => 0) 79 (0, 0)) := k4
          have k4n := k4.row C
          have hbn := below_setRow hb (Nat.le_refl _) C
          go_wp2_with (first
            | (with_reducible refine wpList_load_row rfl 79 _ rfl g8 rfl 79 C (0, 0) _ h8 Try.underlying79 rfl G1.out ?_)
            | (with_reducible refine wpList_store_row rfl 79 _ _ rfl w.heap.size C rfl rfl 79 _ h4 G1.out G2.out G3.out ?_))
          refine bodyPost_ret (results_cell_row Try.results41 _ _ w.heap.size 79 C (0, 0) _ rfl k4n Try.underlying79 rfl G1.out) rfl ?_
          exact ⟨by rw [HC.out], hbn⟩
end Go.Proofs.Ytbekkndkdfmijaa
