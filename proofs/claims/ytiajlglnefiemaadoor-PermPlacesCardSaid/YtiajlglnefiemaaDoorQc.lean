/- The reference's permutation: Place. Conditions: the round constants lie in their variables; the seed and the path are short. -/
import Derived.Test.YtiajlglnefiemaaDoorQb
import Derived.Test.YtiajlglnefiemaaDoorPi
set_option linter.unusedSimpArgs false
set_option linter.unusedVariables false
namespace Go.Proofs.YtiajlglnefiemaaDoor
open Go.RowKit

set_option maxRecDepth 100000 in
set_option maxHeartbeats 2000000 in
theorem rPlace_any {s : ByteArray} {A : Option Addr} {n c : Nat} {l : List Int} {w : World} (h : RNet s A n l w) (N x : Nat) (hN : N ≤ 65536) (hx : x < N) :
    Calls Tryd.prog 47 #[.string s, .slice A n c, .int .i64 (N : Int), .int .i64 (x : Int)] w fun E W' => E = .returned (.int .i64 (placeN s l N x : Int)) ∧ Below w.heap.size w W' := by
  have hc := fun (W : World) (y : Nat) (hW : RNet s A n l W) (hy : y < 2 ^ sideE N * 2 ^ sideE N) => rMix_any (c := c) hW (sideE N) y (sideE_le N) hy
  have hsd := side_any N w hN
  have hg := mixN_lt s l N
  have hh := backN_mix s l N
  have hfit := sideE_fits hN
  have hxl : x < 2 ^ sideE N * 2 ^ sideE N := Nat.lt_of_lt_of_le hx hfit
  obtain ⟨k, hk⟩ := walks_ends hg hh hxl hx
  have hp : placeN s l N x = iter (mixN s l N) (k + 1) x := place_eq hk
  rw [hp]
  have hit := fun j => iter_lt hg j hxl
  have hG : mixF (rnd s l (2 ^ sideE N)) (2 ^ sideE N) = mixN s l N := rfl
  rw [hG] at hc
  clear hh hg hp hG
  generalize mixN s l N = G at *
  generalize 2 ^ sideE N * 2 ^ sideE N = NN at *
  generalize 2 ^ sideE N = B at *
  have HC := Lib.hid hc
  have HI := Lib.hid hit
  have HK := Lib.hid hk
  have HSD := Lib.hid hsd
  clear hc hit hk hsd
  go_enter Tryd.func47, Tryd.ntmps47
  go_wp2_with fail
  refine HSD.out.mono ?_
  rintro E w0 ⟨rfl, rfl⟩
  go_wp2_with fail
  refine (HC.out w0 x h (HI.out 0)).mono ?_
  rintro E w1 ⟨rfl, b1⟩
  go_wp2_with fail
  go_loopg [10] k (fun m v wr => ∃ j : Nat, m + j = k ∧ v = .int .i64 (iter G (j + 1) x : Int) ∧ Below w0.heap.size w0 wr)
  case atStart => exact ⟨0, by omega, rfl, b1⟩
  case round =>
    obtain ⟨j, hj, rfl, hb⟩ := hrel
    by_cases hlt : j < k
    · have hge : (N : Int) ≤ (iter G (j + 1) x : Int) := by have := HK.out.2 j hlt; omega
      have hca := HC.out wr (iter G (j + 1) x) (h.below hb) (HI.out (j + 1))
      generalize hy : iter G (j + 1) x = y at *
      go_wp2_with fail
      refine hca.mono ?_
      rintro E w2 ⟨rfl, b2⟩
      have b3 := hb.trans (b2.mono hb.size)
      go_wp2_with fail
      go_roundg (gk - 1)
      case measure => omega
      case rel => exact ⟨j + 1, by omega, by rw [iter, hy], b3⟩
    · obtain rfl : j = k := by omega
      have hge : (iter G (j + 1) x : Int) < (N : Int) := by have := HK.out.1; omega
      generalize hy : iter G (j + 1) x = y at *
      go_wp2_with fail
      go_ret
      exact ⟨by rw [hy]; rfl, hb⟩
end Go.Proofs.YtiajlglnefiemaaDoor
