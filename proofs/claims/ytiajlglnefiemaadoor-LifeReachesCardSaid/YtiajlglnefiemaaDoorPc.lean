/- The walks of package perm: given, made, the walk, At, Back. Conditions as in the texts before. -/
import Derived.Test.YtiajlglnefiemaaDoorPb
import Derived.Deep.LoopGhost
set_option linter.unusedSimpArgs false
set_option linter.unusedVariables false
namespace Go.Proofs.YtiajlglnefiemaaDoor
open Go.RowKit

/-- THE SIDE's exponent -/
def sideE (N : Nat) : Nat := if N ≤ 1 then 0 else if N ≤ 4 then 1 else if N ≤ 16 then 2 else if N ≤ 64 then 3 else if N ≤ 256 then 4 else if N ≤ 1024 then 5 else if N ≤ 4096 then 6 else if N ≤ 16384 then 7 else 8
theorem sideE_le (N : Nat) : sideE N ≤ 8 := by
  unfold sideE
  repeat' split
  all_goals omega
theorem sideE_fits {N : Nat} (h : N ≤ 65536) : N ≤ 2 ^ sideE N * 2 ^ sideE N := by
  unfold sideE
  repeat' split
  all_goals omega
theorem sideE_lt {N j : Nat} (hj : j < sideE N) : 2 ^ j * 2 ^ j < N := by
  have h8 := sideE_le N
  have : j = 0 ∨ j = 1 ∨ j = 2 ∨ j = 3 ∨ j = 4 ∨ j = 5 ∨ j = 6 ∨ j = 7 := by omega
  unfold sideE at hj
  repeat' split at hj
  all_goals (rcases this with rfl | rfl | rfl | rfl | rfl | rfl | rfl | rfl <;> omega)
theorem sideE_ge {N j : Nat} (h : N ≤ 65536) (hj : sideE N ≤ j) : N ≤ 2 ^ j * 2 ^ j := by
  have := Nat.pow_le_pow_right (n := 2) (by omega) hj
  exact Nat.le_trans (sideE_fits h) (Nat.mul_le_mul this this)
/-- what given answers -/
def givenE (s : ByteArray) (n : Nat) (N : Int) : Int := if 32 < s.size ∨ 8 < n ∨ 65536 < N then 4 else 0
set_option maxRecDepth 100000 in
set_option maxHeartbeats 2000000 in
theorem given_any (s : ByteArray) (A : Option Addr) (n c : Nat) (N : Int) (w : World) (hs : s.size ≤ 1000000) (hn : n ≤ 1000000) :
    Calls Tryd.prog 43 #[.string s, .slice A n c, .int .i64 N] w fun E W' => E = .returned (.int .i64 (givenE s n N)) ∧ W' = w := by
  unfold givenE
  by_cases h1 : (32 : Int) < (s.size : Int)
  · rw [if_pos (by omega)]
    go_enter Tryd.func43, Tryd.ntmps43
    go_wp2_with fail
    go_ret
    exact ⟨rfl, rfl⟩
  · by_cases h2 : (8 : Int) < (n : Int)
    · rw [if_pos (by omega)]
      go_enter Tryd.func43, Tryd.ntmps43
      go_wp2_with fail
      go_ret
      exact ⟨rfl, rfl⟩
    · by_cases h3 : (65536 : Int) < N
      · rw [if_pos (by omega)]
        go_enter Tryd.func43, Tryd.ntmps43
        go_wp2_with fail
        go_ret
        exact ⟨rfl, rfl⟩
      · rw [if_neg (by omega)]
        go_enter Tryd.func43, Tryd.ntmps43
        go_wp2_with fail
        go_ret
        exact ⟨rfl, rfl⟩
theorem info67 : (Tryd.prog.info? 67).map (·.size) = some 3 := by kernel_rfl
theorem side_lt {b : Nat} (h : b * b < 65536) : b < 65536 := by
  rcases Nat.lt_or_ge b 65536 with h1 | h1
  · exact h1
  · have := Nat.mul_le_mul h1 h1
    omega
set_option maxRecDepth 100000 in
set_option maxHeartbeats 2000000 in
theorem made_any (s : ByteArray) (A : Option Addr) (n c N : Nat) (w : World) (hN : N ≤ 65536) :
    Calls Tryd.prog 45 #[.string s, .slice A n c, .int .i64 (N : Int)] w fun E W' => E = .returned (.agg (netCells s A n c (2 ^ sideE N))) ∧ Below w.heap.size w W' := by
  have hfit := sideE_fits hN
  have hl := fun j (hj : j < sideE N) => sideE_lt hj
  have h8 := sideE_le N
  have hge := fun j (hj : sideE N ≤ j) => sideE_ge hN hj
  generalize sideE N = E at *
  have HL := Lib.hid hl
  have HG := Lib.hid hge
  clear hl hge
  unfold netCells
  go_enter Tryd.func45, Tryd.ntmps45
  go_wp2_with fail
  go_loopw [7] (fun b wr => ∃ j : Nat, j ≤ E ∧ b = .int .i64 ((2 ^ j : Nat) : Int) ∧ wr = w.alloc (.cells #[.string ⟨#[]⟩, .slice none 0 0, .int .i64 0] 67)) (fun b _ => 65536 - (intOf b).toNat)
  case atStart => exact ⟨0, by omega, rfl, rfl⟩
  case round =>
    obtain ⟨j, hj, rfl, rfl⟩ := hrel
    have hp : 2 ^ j ≤ 256 := Nat.pow_le_pow_right (n := 2) (by omega) (show j ≤ 8 by omega)
    have hp0 := Nat.two_pow_pos j
    have hps : 2 ^ (j + 1) = 2 * 2 ^ j := by rw [Nat.pow_succ]; omega
    have hm : ((2 ^ j : Nat) : Int) * ((2 ^ j : Nat) : Int) = ((2 ^ j * 2 ^ j : Nat) : Int) := (Int.natCast_mul _ _).symm
    have hm2 : 2 ^ j * 2 ^ j ≤ 65536 := Nat.mul_le_mul hp hp
    have hw1 : IntKind.i64.wrap (((2 ^ j : Nat) : Int) * ((2 ^ j : Nat) : Int)) = ((2 ^ j * 2 ^ j : Nat) : Int) := by
      rw [hm]
      generalize 2 ^ j * 2 ^ j = q at *
      simp [IntKind.wrap, IntKind.signed, IntKind.bits]; omega
    have hlN := HL.out j
    have hgN := HG.out j
    have HPS := Lib.hid hps
    clear hps hm
    generalize 2 ^ j * 2 ^ j = q at *
    by_cases hlt : j < E
    · have hq : (q : Int) < (N : Int) := by have := hlN hlt; omega
      generalize hp' : 2 ^ j = p at *
      go_wp2_with fail
      go_roundw
      case rel => exact ⟨j + 1, by omega, by rw [HPS.out]; go_num, trivial⟩
      case measure => simp [intOf]; omega
    · have hq : ¬ (q : Int) < (N : Int) := by have := hgN (by omega); omega
      obtain rfl : j = E := by omega
      generalize hp' : 2 ^ j = p at *
      go_wp2_with fail
      exact ret_row (g := w.heap.size) (t := 67) Tryd.results45 rfl (Blk.new w 67 _) rfl Tryd.underlying67 info67 rfl ⟨rfl, (Below.refl _ w).alloc (Nat.le_refl _) _⟩

set_option maxRecDepth 100000 in
set_option maxHeartbeats 2000000 in
theorem walkMix_any {s : ByteArray} {A : Option Addr} {n c : Nat} {l : List Int} {w : World} (h : Net s A n l w) (e N x : Nat) (he : e ≤ 8) (hN : N ≤ 2 ^ e * 2 ^ e) (hx : x < N) :
    Calls Tryd.prog 50 #[.int .i64 (N : Int), .int .i64 (x : Int), .func (.func 51) #[.agg (netCells s A n c (2 ^ e))] #[]] w fun E W' => E = .returned (.int .i64 (place (mixF (rnd s l (2 ^ e)) (2 ^ e)) N x : Int)) ∧ Below w.heap.size w W' := by
  have hc := fun (W : World) (y : Nat) (hW : Net s A n l W) (hy : y < 2 ^ e * 2 ^ e) => mix_any (c := c) hW e y he hy
  have hg := fun y (hy : y < 2 ^ e * 2 ^ e) => mixF_lt (rnd_lt s l e) hy
  have hh := fun y (hy : y < 2 ^ e * 2 ^ e) => back_mix (rnd_lt s l e) hy
  have hxl : x < 2 ^ e * 2 ^ e := Nat.lt_of_lt_of_le hx hN
  obtain ⟨k, hk⟩ := walks_ends hg hh hxl hx
  rw [place_eq hk]
  have hit := fun j => iter_lt hg j hxl
  clear hh hg
  generalize mixF (rnd s l (2 ^ e)) (2 ^ e) = G at *
  have HC := Lib.hid hc
  have HI := Lib.hid hit
  have HK := Lib.hid hk
  clear hc hit hk
  generalize netCells s A n c (2 ^ e) = cs at *
  have hxi : (x : Int) < (N : Int) := by omega
  go_enter Tryd.func50, Tryd.ntmps50
  go_wp2_with fail
  refine (HC.out w x h (HI.out 0)).mono ?_
  rintro E w1 ⟨rfl, b1⟩
  go_wp2_with fail
  go_loopg [7] k (fun m v wr => ∃ j : Nat, m + j = k ∧ v = .int .i64 (iter G (j + 1) x : Int) ∧ Below w.heap.size w wr)
  case atStart => exact ⟨0, by omega, rfl, b1⟩
  case round =>
    obtain ⟨j, hj, rfl, hb⟩ := hrel
    by_cases hlt : j < k
    · have hge : (N : Int) ≤ (iter G (j + 1) x : Int) := by have := HK.out.2 j hlt; omega
      have hca := HC.out wr (iter G (j + 1) x) (h.below hb) (HI.out (j + 1))
      generalize hy : iter G (j + 1) x = y at *
      go_wp2_with fail
      refine hca.mono ?_
      rintro E w2 ⟨rfl, b2⟩
      have b3 := hb.trans (b2.mono hb.size)
      go_wp2_with fail
      go_roundg (gk - 1)
      case measure => omega
      case rel => exact ⟨j + 1, by omega, by rw [iter, hy], b3⟩
    · obtain rfl : j = k := by omega
      have hge : (iter G (j + 1) x : Int) < (N : Int) := by have := HK.out.1; omega
      generalize hy : iter G (j + 1) x = y at *
      go_wp2_with fail
      go_ret
      exact ⟨by rw [hy]; rfl, hb⟩
set_option maxRecDepth 100000 in
set_option maxHeartbeats 2000000 in
theorem walkBack_any {s : ByteArray} {A : Option Addr} {n c : Nat} {l : List Int} {w : World} (h : Net s A n l w) (e N x : Nat) (he : e ≤ 8) (hN : N ≤ 2 ^ e * 2 ^ e) (hx : x < N) :
    Calls Tryd.prog 50 #[.int .i64 (N : Int), .int .i64 (x : Int), .func (.func 52) #[.agg (netCells s A n c (2 ^ e))] #[]] w fun E W' => E = .returned (.int .i64 (place (backF (rnd s l (2 ^ e)) (2 ^ e)) N x : Int)) ∧ Below w.heap.size w W' := by
  have hc := fun (W : World) (y : Nat) (hW : Net s A n l W) (hy : y < 2 ^ e * 2 ^ e) => back_any (c := c) hW e y he hy
  have hg := fun y (hy : y < 2 ^ e * 2 ^ e) => backF_lt (rnd_lt s l e) hy
  have hh := fun y (hy : y < 2 ^ e * 2 ^ e) => mix_back (rnd_lt s l e) hy
  have hxl : x < 2 ^ e * 2 ^ e := Nat.lt_of_lt_of_le hx hN
  obtain ⟨k, hk⟩ := walks_ends hg hh hxl hx
  rw [place_eq hk]
  have hit := fun j => iter_lt hg j hxl
  clear hh hg
  generalize backF (rnd s l (2 ^ e)) (2 ^ e) = G at *
  have HC := Lib.hid hc
  have HI := Lib.hid hit
  have HK := Lib.hid hk
  clear hc hit hk
  generalize netCells s A n c (2 ^ e) = cs at *
  have hxi : (x : Int) < (N : Int) := by omega
  go_enter Tryd.func50, Tryd.ntmps50
  go_wp2_with fail
  refine (HC.out w x h (HI.out 0)).mono ?_
  rintro E w1 ⟨rfl, b1⟩
  go_wp2_with fail
  go_loopg [7] k (fun m v wr => ∃ j : Nat, m + j = k ∧ v = .int .i64 (iter G (j + 1) x : Int) ∧ Below w.heap.size w wr)
  case atStart => exact ⟨0, by omega, rfl, b1⟩
  case round =>
    obtain ⟨j, hj, rfl, hb⟩ := hrel
    by_cases hlt : j < k
    · have hge : (N : Int) ≤ (iter G (j + 1) x : Int) := by have := HK.out.2 j hlt; omega
      have hca := HC.out wr (iter G (j + 1) x) (h.below hb) (HI.out (j + 1))
      generalize hy : iter G (j + 1) x = y at *
      go_wp2_with fail
      refine hca.mono ?_
      rintro E w2 ⟨rfl, b2⟩
      have b3 := hb.trans (b2.mono hb.size)
      go_wp2_with fail
      go_roundg (gk - 1)
      case measure => omega
      case rel => exact ⟨j + 1, by omega, by rw [iter, hy], b3⟩
    · obtain rfl : j = k := by omega
      have hge : (iter G (j + 1) x : Int) < (N : Int) := by have := HK.out.1; omega
      generalize hy : iter G (j + 1) x = y at *
      go_wp2_with fail
      go_ret
      exact ⟨by rw [hy]; rfl, hb⟩

theorem givenE_cases (s : ByteArray) (n : Nat) (N : Int) : givenE s n N = 4 ∨ (givenE s n N = 0 ∧ N ≤ 65536 ∧ n ≤ 8 ∧ s.size ≤ 32) := by
  unfold givenE
  split
  · exact .inl rfl
  · exact .inr ⟨rfl, by omega, by omega, by omega⟩
/-- the error of At and Back -/
def atE (s : ByteArray) (n : Nat) (N i : Int) : Int := if givenE s n N = 0 then (if i < 0 ∨ N ≤ i then 1 else 0) else 4
/-- the words of a network -/
def netF (s : ByteArray) (l : List Int) (N : Nat) : Nat → Nat → Nat := rnd s l (2 ^ sideE N)
/-- WHAT At AND Back RETURN -/
noncomputable def atV (s : ByteArray) (n : Nat) (l : List Int) (N i : Int) : Nat := if atE s n N i = 0 then place (mixF (netF s l N.toNat) (2 ^ sideE N.toNat)) N.toNat i.toNat else 0
noncomputable def backV (s : ByteArray) (n : Nat) (l : List Int) (N i : Int) : Nat := if atE s n N i = 0 then place (backF (netF s l N.toNat) (2 ^ sideE N.toNat)) N.toNat i.toNat else 0
set_option maxRecDepth 100000 in
set_option maxHeartbeats 2000000 in
theorem at_any {s : ByteArray} {A : Option Addr} {n c : Nat} {l : List Int} {w : World} (h : Net s A n l w) (N i : Int) :
    Calls Tryd.prog 24 #[.string s, .slice A n c, .int .i64 N, .int .i64 i] w fun E W' => E = .returned (.tuple #[.int .i64 (atV s n l N i : Int), .int .i64 (atE s n N i)]) ∧ Below w.heap.size w W' := by
  have hgv := given_any s A n c N w (by have := h.text; omega) (by have := h.short; omega)
  rcases givenE_cases s n N with h4 | ⟨h0, hN, hn8, hs32⟩
  · have e1 : atE s n N i = 4 := by unfold atE; rw [h4, if_neg (by decide)]
    have e2 : atV s n l N i = 0 := by unfold atV; rw [e1, if_neg (by decide)]
    rw [e1, e2]
    rw [h4] at hgv
    clear e1 e2 h4
    go_enter Tryd.func24, Tryd.ntmps24
    go_wp2_with fail
    refine hgv.mono ?_
    rintro E w1 ⟨rfl, rfl⟩
    go_wp2_with fail
    go_ret2
    exact ⟨rfl, Below.refl _ _⟩
  · by_cases hi : i < 0
    · have e1 : atE s n N i = 1 := by unfold atE; rw [h0, if_pos rfl, if_pos (by omega)]
      have e2 : atV s n l N i = 0 := by unfold atV; rw [e1, if_neg (by decide)]
      rw [e1, e2]
      rw [h0] at hgv
      clear e1 e2 h0
      go_enter Tryd.func24, Tryd.ntmps24
      go_wp2_with fail
      refine hgv.mono ?_
      rintro E w1 ⟨rfl, rfl⟩
      go_wp2_with fail
      go_ret2
      exact ⟨rfl, Below.refl _ _⟩
    · by_cases hi2 : N ≤ i
      · have e1 : atE s n N i = 1 := by unfold atE; rw [h0, if_pos rfl, if_pos (by omega)]
        have e2 : atV s n l N i = 0 := by unfold atV; rw [e1, if_neg (by decide)]
        rw [e1, e2]
        rw [h0] at hgv
        clear e1 e2 h0
        go_enter Tryd.func24, Tryd.ntmps24
        go_wp2_with fail
        refine hgv.mono ?_
        rintro E w1 ⟨rfl, rfl⟩
        go_wp2_with fail
        go_ret2
        exact ⟨rfl, Below.refl _ _⟩
      · have e1 : atE s n N i = 0 := by unfold atE; rw [h0, if_pos rfl, if_neg (by omega)]
        have e2 : atV s n l N i = place (mixF (rnd s l (2 ^ sideE N.toNat)) (2 ^ sideE N.toNat)) N.toNat i.toNat := by unfold atV; rw [e1, if_pos rfl]; rfl
        rw [e1, e2]
        rw [h0] at hgv
        clear e1 e2 h0
        obtain ⟨M, rfl⟩ := Int.eq_ofNat_of_zero_le (show 0 ≤ N by omega)
        obtain ⟨x, rfl⟩ := Int.eq_ofNat_of_zero_le (show 0 ≤ i by omega)
        rw [Int.toNat_natCast, Int.toNat_natCast]
        have hmade := made_any s A n c M w (by omega)
        have hwalk := fun (W : World) (hW : Net s A n l W) => walkMix_any (c := c) hW (sideE M) M x (sideE_le M) (sideE_fits (by omega)) (by omega)
        generalize netCells s A n c (2 ^ sideE M) = cs at *
        generalize place (mixF (rnd s l (2 ^ sideE M)) (2 ^ sideE M)) M x = y at *
        go_enter Tryd.func24, Tryd.ntmps24
        go_wp2_with fail
        refine hgv.mono ?_
        rintro E w1 ⟨rfl, rfl⟩
        go_wp2_with fail
        refine hmade.mono ?_
        rintro E w2 ⟨rfl, b2⟩
        go_wp2_with fail
        refine (hwalk w2 (h.below b2)).mono ?_
        rintro E w3 ⟨rfl, b3⟩
        go_wp2_with fail
        go_ret2
        exact ⟨rfl, b2.trans (b3.mono b2.size)⟩
set_option maxRecDepth 100000 in
set_option maxHeartbeats 2000000 in
theorem backw_any {s : ByteArray} {A : Option Addr} {n c : Nat} {l : List Int} {w : World} (h : Net s A n l w) (N i : Int) :
    Calls Tryd.prog 26 #[.string s, .slice A n c, .int .i64 N, .int .i64 i] w fun E W' => E = .returned (.tuple #[.int .i64 (backV s n l N i : Int), .int .i64 (atE s n N i)]) ∧ Below w.heap.size w W' := by
  have hgv := given_any s A n c N w (by have := h.text; omega) (by have := h.short; omega)
  rcases givenE_cases s n N with h4 | ⟨h0, hN, hn8, hs32⟩
  · have e1 : atE s n N i = 4 := by unfold atE; rw [h4, if_neg (by decide)]
    have e2 : backV s n l N i = 0 := by unfold backV; rw [e1, if_neg (by decide)]
    rw [e1, e2]
    rw [h4] at hgv
    clear e1 e2 h4
    go_enter Tryd.func26, Tryd.ntmps26
    go_wp2_with fail
    refine hgv.mono ?_
    rintro E w1 ⟨rfl, rfl⟩
    go_wp2_with fail
    go_ret2
    exact ⟨rfl, Below.refl _ _⟩
  · by_cases hi : i < 0
    · have e1 : atE s n N i = 1 := by unfold atE; rw [h0, if_pos rfl, if_pos (by omega)]
      have e2 : backV s n l N i = 0 := by unfold backV; rw [e1, if_neg (by decide)]
      rw [e1, e2]
      rw [h0] at hgv
      clear e1 e2 h0
      go_enter Tryd.func26, Tryd.ntmps26
      go_wp2_with fail
      refine hgv.mono ?_
      rintro E w1 ⟨rfl, rfl⟩
      go_wp2_with fail
      go_ret2
      exact ⟨rfl, Below.refl _ _⟩
    · by_cases hi2 : N ≤ i
      · have e1 : atE s n N i = 1 := by unfold atE; rw [h0, if_pos rfl, if_pos (by omega)]
        have e2 : backV s n l N i = 0 := by unfold backV; rw [e1, if_neg (by decide)]
        rw [e1, e2]
        rw [h0] at hgv
        clear e1 e2 h0
        go_enter Tryd.func26, Tryd.ntmps26
        go_wp2_with fail
        refine hgv.mono ?_
        rintro E w1 ⟨rfl, rfl⟩
        go_wp2_with fail
        go_ret2
        exact ⟨rfl, Below.refl _ _⟩
      · have e1 : atE s n N i = 0 := by unfold atE; rw [h0, if_pos rfl, if_neg (by omega)]
        have e2 : backV s n l N i = place (backF (rnd s l (2 ^ sideE N.toNat)) (2 ^ sideE N.toNat)) N.toNat i.toNat := by unfold backV; rw [e1, if_pos rfl]; rfl
        rw [e1, e2]
        rw [h0] at hgv
        clear e1 e2 h0
        obtain ⟨M, rfl⟩ := Int.eq_ofNat_of_zero_le (show 0 ≤ N by omega)
        obtain ⟨x, rfl⟩ := Int.eq_ofNat_of_zero_le (show 0 ≤ i by omega)
        rw [Int.toNat_natCast, Int.toNat_natCast]
        have hmade := made_any s A n c M w (by omega)
        have hwalk := fun (W : World) (hW : Net s A n l W) => walkBack_any (c := c) hW (sideE M) M x (sideE_le M) (sideE_fits (by omega)) (by omega)
        generalize netCells s A n c (2 ^ sideE M) = cs at *
        generalize place (backF (rnd s l (2 ^ sideE M)) (2 ^ sideE M)) M x = y at *
        go_enter Tryd.func26, Tryd.ntmps26
        go_wp2_with fail
        refine hgv.mono ?_
        rintro E w1 ⟨rfl, rfl⟩
        go_wp2_with fail
        refine hmade.mono ?_
        rintro E w2 ⟨rfl, b2⟩
        go_wp2_with fail
        refine (hwalk w2 (h.below b2)).mono ?_
        rintro E w3 ⟨rfl, b3⟩
        go_wp2_with fail
        go_ret2
        exact ⟨rfl, b2.trans (b3.mono b2.size)⟩
end Go.Proofs.YtiajlglnefiemaaDoor
