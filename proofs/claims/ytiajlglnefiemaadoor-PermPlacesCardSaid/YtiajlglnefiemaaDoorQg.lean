/- The reference's permutation: At, Back. Conditions: the round constants lie in their variables; the seed and the path are short. -/
import Derived.Test.YtiajlglnefiemaaDoorQf
set_option linter.unusedSimpArgs false
set_option linter.unusedVariables false
namespace Go.Proofs.YtiajlglnefiemaaDoor
open Go.RowKit

set_option maxRecDepth 100000 in
set_option maxHeartbeats 2000000 in
theorem rPlaceAt_any {s : ByteArray} {A : Option Addr} {n c : Nat} {l : List Int} {w : World} (h : RNet s A n l w) (N i : Int) :
    Calls Tryd.prog 25 #[.string s, .slice A n c, .int .i64 N, .int .i64 i] w fun E W' => E = .returned (.tuple #[.int .i64 (atV s n l N i : Int), .int .i64 (atE s n N i)]) ∧ Below w.heap.size w W' := by
  have hgv := rGiven_any s A n c N w (by have := h.text; omega) (by have := h.short; omega)
  rcases givenE_cases s n N with h4 | ⟨h0, hN, hn8, hs32⟩
  · have e1 : atE s n N i = 4 := by unfold atE; rw [h4, if_neg (by decide)]
    have e2 : atV s n l N i = 0 := by unfold atV; rw [e1, if_neg (by decide)]
    rw [e1, e2]
    rw [h4] at hgv
    clear e1 e2 h4
    go_enter Tryd.func25, Tryd.ntmps25
    go_wp2_with fail
    refine hgv.mono ?_
    rintro E w1 ⟨rfl, rfl⟩
    go_wp2_with fail
    go_ret2
    exact ⟨rfl, Below.refl _ _⟩
  · by_cases hi : i < 0
    · have e1 : atE s n N i = 1 := by unfold atE; rw [h0, if_pos rfl, if_pos (by omega)]
      have e2 : atV s n l N i = 0 := by unfold atV; rw [e1, if_neg (by decide)]
      rw [e1, e2]
      rw [h0] at hgv
      clear e1 e2 h0
      go_enter Tryd.func25, Tryd.ntmps25
      go_wp2_with fail
      refine hgv.mono ?_
      rintro E w1 ⟨rfl, rfl⟩
      go_wp2_with fail
      go_ret2
      exact ⟨rfl, Below.refl _ _⟩
    · by_cases hi2 : N ≤ i
      · have e1 : atE s n N i = 1 := by unfold atE; rw [h0, if_pos rfl, if_pos (by omega)]
        have e2 : atV s n l N i = 0 := by unfold atV; rw [e1, if_neg (by decide)]
        rw [e1, e2]
        rw [h0] at hgv
        clear e1 e2 h0
        go_enter Tryd.func25, Tryd.ntmps25
        go_wp2_with fail
        refine hgv.mono ?_
        rintro E w1 ⟨rfl, rfl⟩
        go_wp2_with fail
        go_ret2
        exact ⟨rfl, Below.refl _ _⟩
      · have e1 : atE s n N i = 0 := by unfold atE; rw [h0, if_pos rfl, if_neg (by omega)]
        rw [atV_eq s n l N i e1, e1]
        rw [h0] at hgv
        clear e1 h0
        obtain ⟨M, rfl⟩ := Int.eq_ofNat_of_zero_le (show 0 ≤ N by omega)
        obtain ⟨x, rfl⟩ := Int.eq_ofNat_of_zero_le (show 0 ≤ i by omega)
        rw [Int.toNat_natCast, Int.toNat_natCast]
        have hp := rPlace_any (c := c) h M x (by omega) (by omega)
        generalize placeN s l M x = y at *
        go_enter Tryd.func25, Tryd.ntmps25
        go_wp2_with fail
        refine hgv.mono ?_
        rintro E w1 ⟨rfl, rfl⟩
        go_wp2_with fail
        refine hp.mono ?_
        rintro E w2 ⟨rfl, b2⟩
        go_wp2_with fail
        go_ret2
        exact ⟨rfl, b2⟩
set_option maxRecDepth 100000 in
set_option maxHeartbeats 2000000 in
theorem rPlaceBack_any {s : ByteArray} {A : Option Addr} {n c : Nat} {l : List Int} {w : World} (h : RNet s A n l w) (N i : Int) :
    Calls Tryd.prog 27 #[.string s, .slice A n c, .int .i64 N, .int .i64 i] w fun E W' => E = .returned (.tuple #[.int .i64 (backV s n l N i : Int), .int .i64 (atE s n N i)]) ∧ Below w.heap.size w W' := by
  have hgv := rGiven_any s A n c N w (by have := h.text; omega) (by have := h.short; omega)
  rcases givenE_cases s n N with h4 | ⟨h0, hN, hn8, hs32⟩
  · have e1 : atE s n N i = 4 := by unfold atE; rw [h4, if_neg (by decide)]
    have e2 : backV s n l N i = 0 := by unfold backV; rw [e1, if_neg (by decide)]
    rw [e1, e2]
    rw [h4] at hgv
    clear e1 e2 h4
    go_enter Tryd.func27, Tryd.ntmps27
    go_wp2_with fail
    refine hgv.mono ?_
    rintro E w1 ⟨rfl, rfl⟩
    go_wp2_with fail
    go_ret2
    exact ⟨rfl, Below.refl _ _⟩
  · by_cases hi : i < 0
    · have e1 : atE s n N i = 1 := by unfold atE; rw [h0, if_pos rfl, if_pos (by omega)]
      have e2 : backV s n l N i = 0 := by unfold backV; rw [e1, if_neg (by decide)]
      rw [e1, e2]
      rw [h0] at hgv
      clear e1 e2 h0
      go_enter Tryd.func27, Tryd.ntmps27
      go_wp2_with fail
      refine hgv.mono ?_
      rintro E w1 ⟨rfl, rfl⟩
      go_wp2_with fail
      go_ret2
      exact ⟨rfl, Below.refl _ _⟩
    · by_cases hi2 : N ≤ i
      · have e1 : atE s n N i = 1 := by unfold atE; rw [h0, if_pos rfl, if_pos (by omega)]
        have e2 : backV s n l N i = 0 := by unfold backV; rw [e1, if_neg (by decide)]
        rw [e1, e2]
        rw [h0] at hgv
        clear e1 e2 h0
        go_enter Tryd.func27, Tryd.ntmps27
        go_wp2_with fail
        refine hgv.mono ?_
        rintro E w1 ⟨rfl, rfl⟩
        go_wp2_with fail
        go_ret2
        exact ⟨rfl, Below.refl _ _⟩
      · have e1 : atE s n N i = 0 := by unfold atE; rw [h0, if_pos rfl, if_neg (by omega)]
        rw [backV_eq s n l N i e1, e1]
        rw [h0] at hgv
        clear e1 h0
        obtain ⟨M, rfl⟩ := Int.eq_ofNat_of_zero_le (show 0 ≤ N by omega)
        obtain ⟨x, rfl⟩ := Int.eq_ofNat_of_zero_le (show 0 ≤ i by omega)
        rw [Int.toNat_natCast, Int.toNat_natCast]
        have hM : M ≤ 65536 := by omega
        have hxM : x < M := by omega
        have hc := fun (W : World) (y : Nat) (hW : RNet s A n l W) (hy : y < 2 ^ sideE M * 2 ^ sideE M) => rUnmix_any (c := c) hW (sideE M) y (sideE_le M) hy
        have hsd := side_any M w hM
        have hg := backN_lt s l M
        have hh := mixN_back s l M
        have hfit := sideE_fits hM
        have hxl : x < 2 ^ sideE M * 2 ^ sideE M := Nat.lt_of_lt_of_le hxM hfit
        obtain ⟨k, hk⟩ := walks_ends hg hh hxl hxM
        have hp : unplaceN s l M x = iter (backN s l M) (k + 1) x := place_eq hk
        rw [hp]
        have hit := fun j => iter_lt hg j hxl
        have hG : backF (rnd s l (2 ^ sideE M)) (2 ^ sideE M) = backN s l M := rfl
        rw [hG] at hc
        clear hh hg hp hG
        generalize backN s l M = G at *
        generalize 2 ^ sideE M * 2 ^ sideE M = NN at *
        generalize 2 ^ sideE M = B at *
        have HC := Lib.hid hc
        have HI := Lib.hid hit
        have HK := Lib.hid hk
        have HSD := Lib.hid hsd
        clear hc hit hk hsd
        go_enter Tryd.func27, Tryd.ntmps27
        go_wp2_with fail
        refine hgv.mono ?_
        rintro E w1 ⟨rfl, rfl⟩
        go_wp2_with fail
        refine HSD.out.mono ?_
        rintro E w0 ⟨rfl, rfl⟩
        go_wp2_with fail
        go_loopg [3] k (fun m v wr => ∃ j : Nat, m + j = k ∧ v = .int .i64 (iter G j x : Int) ∧ Below w0.heap.size w0 wr)
        case atStart => exact ⟨0, by omega, rfl, Below.refl _ _⟩
        case round =>
          obtain ⟨j, hj, rfl, hb⟩ := hrel
          have hca := HC.out wr (iter G j x) (h.below hb) (HI.out j)
          have hnx : iter G (j + 1) x = G (iter G j x) := rfl
          by_cases hlt : j < k
          · have hge : (M : Int) ≤ (G (iter G j x) : Int) := by have := HK.out.2 j hlt; rw [hnx] at this; omega
            have HN := Lib.hid hnx
            clear hnx
            generalize hz : G (iter G j x) = z at *
            generalize hy : iter G j x = y at *
            go_wp2_with fail
            refine hca.mono ?_
            rintro E w2 ⟨rfl, b2⟩
            have b3 := hb.trans (b2.mono hb.size)
            go_wp2_with fail
            go_roundg (gk - 1)
            case measure => omega
            case rel => exact ⟨j + 1, by omega, by rw [HN.out], b3⟩
          · obtain rfl : j = k := by omega
            have hge : (G (iter G j x) : Int) < (M : Int) := by have := HK.out.1; rw [hnx] at this; omega
            have HN := Lib.hid hnx
            clear hnx
            generalize hz : G (iter G j x) = z at *
            generalize hy : iter G j x = y at *
            go_wp2_with fail
            refine hca.mono ?_
            rintro E w2 ⟨rfl, b2⟩
            have b3 := hb.trans (b2.mono hb.size)
            go_wp2_with fail
            go_ret2
            exact ⟨by rw [HN.out]; rfl, b3⟩
end Go.Proofs.YtiajlglnefiemaaDoor
