/- The walks of Side and of the law PermSizes. Conditions: the round constants lie in their variable. -/
import Derived.Test.YtiajlglnefiemaaDoorPg
set_option linter.unusedSimpArgs false
set_option linter.unusedVariables false
namespace Go.Proofs.YtiajlglnefiemaaDoor
open Go.RowKit

set_option maxRecDepth 100000 in
set_option maxHeartbeats 2000000 in
theorem side_any (N : Nat) (w : World) (hN : N ≤ 65536) :
    Calls Tryd.prog 23 #[.int .i64 (N : Int)] w fun E W' => E = .returned (.int .i64 ((2 ^ sideE N : Nat) : Int)) ∧ W' = w := by
  have hfit := sideE_fits hN
  have hl := fun j (hj : j < sideE N) => sideE_lt hj
  have h8 := sideE_le N
  have hge := fun j (hj : sideE N ≤ j) => sideE_ge hN hj
  generalize sideE N = E at *
  have HL := Lib.hid hl
  have HG := Lib.hid hge
  clear hl hge
  go_enter Tryd.func23, Tryd.ntmps23
  go_wp2_with fail
  go_loopw [3] (fun b wr => ∃ j : Nat, j ≤ E ∧ b = .int .i64 ((2 ^ j : Nat) : Int) ∧ wr = w) (fun b _ => 65536 - (intOf b).toNat)
  case atStart => exact ⟨0, by omega, rfl, rfl⟩
  case round =>
    obtain ⟨j, hj, rfl, rfl⟩ := hrel
    have hp : 2 ^ j ≤ 256 := Nat.pow_le_pow_right (n := 2) (by omega) (show j ≤ 8 by omega)
    have hp0 := Nat.two_pow_pos j
    have hps : 2 ^ (j + 1) = 2 * 2 ^ j := by rw [Nat.pow_succ]; omega
    have hm : ((2 ^ j : Nat) : Int) * ((2 ^ j : Nat) : Int) = ((2 ^ j * 2 ^ j : Nat) : Int) := (Int.natCast_mul _ _).symm
    have hm2 : 2 ^ j * 2 ^ j ≤ 65536 := Nat.mul_le_mul hp hp
    have hw1 : IntKind.i64.wrap (((2 ^ j : Nat) : Int) * ((2 ^ j : Nat) : Int)) = ((2 ^ j * 2 ^ j : Nat) : Int) := by
      rw [hm]
      generalize 2 ^ j * 2 ^ j = q at *
      simp [IntKind.wrap, IntKind.signed, IntKind.bits]; omega
    have hlN := HL.out j
    have hgN := HG.out j
    have HPS := Lib.hid hps
    clear hps hm
    generalize 2 ^ j * 2 ^ j = q at *
    by_cases hlt : j < E
    · have hq : (q : Int) < (N : Int) := by have := hlN hlt; omega
      generalize hp' : 2 ^ j = p at *
      go_wp2_with fail
      go_roundw
      case rel => exact ⟨j + 1, by omega, by rw [HPS.out]; go_num, trivial⟩
      case measure => simp [intOf]; omega
    · have hq : ¬ (q : Int) < (N : Int) := by have := hgN (by omega); omega
      obtain rfl : j = E := by omega
      generalize hp' : 2 ^ j = p at *
      go_wp2_with fail
      go_ret
      exact ⟨rfl, rfl⟩

theorem pow4 (q : Nat) : 2 ^ (q + 1) * 2 ^ (q + 1) = 4 * (2 ^ q * 2 ^ q) := by rw [Nat.pow_succ, Nat.mul_mul_mul_comm, Nat.mul_comm]
/-- the least number of a size -/
theorem least_le {N : Nat} (h : 2 ≤ N) (h2 : N ≤ 65536) : 2 ^ sideE N * 2 ^ sideE N / 4 + 1 ≤ N := by
  have e1 : 1 ≤ sideE N := by
    rcases Nat.eq_zero_or_pos (sideE N) with e | e
    · have := sideE_fits h2
      rw [e] at this
      omega
    · exact e
  have := sideE_lt (N := N) (j := sideE N - 1) (by omega)
  obtain ⟨q, hq⟩ : ∃ q, sideE N = q + 1 := ⟨sideE N - 1, by omega⟩
  rw [hq] at this ⊢
  rw [Nat.add_sub_cancel] at this
  have e2 := pow4 q
  rw [e2, Nat.mul_div_cancel_left _ (by omega)]
  omega
theorem same_side {N M : Nat} (h : 2 ≤ N) (h2 : N ≤ 65536) (h3 : 2 ^ sideE N * 2 ^ sideE N / 4 + 1 ≤ M) (h4 : M ≤ N) : sideE M = sideE N := by
  rcases Nat.lt_trichotomy (sideE M) (sideE N) with c | c | c
  · have h5 := sideE_fits (N := M) (by omega)
    have h6 : 2 ^ (sideE M) * 2 ^ (sideE M) ≤ 2 ^ sideE N * 2 ^ sideE N / 4 := by
      obtain ⟨q, hq⟩ : ∃ q, sideE N = q + 1 := ⟨sideE N - 1, by omega⟩
      rw [hq]
      have e2 := pow4 q
      rw [e2, Nat.mul_div_cancel_left _ (by omega)]
      have := Nat.pow_le_pow_right (n := 2) (by omega) (show sideE M ≤ q by omega)
      exact Nat.mul_le_mul this this
    omega
  · exact c
  · have h5 := sideE_lt c
    have h6 := sideE_fits h2
    omega
theorem place_small (t : ByteArray) (L : List Int) {N M x : Nat} (h2 : N ≤ 65536) (hs : sideE M = sideE N) (h4 : M ≤ N) (hx : x < M) (hp : placeN t L N x < M) : placeN t L M x = placeN t L N x := by
  have e : mixN t L M = mixN t L N := by unfold mixN netF; rw [hs]
  show place (mixN t L M) M x = place (mixN t L N) N x
  rw [e]
  exact place_less (mixN_lt t L N) (backN_mix t L N) (Nat.lt_of_lt_of_le (show x < N by omega) (sideE_fits h2)) h4 hx hp
set_option maxRecDepth 100000 in
set_option maxHeartbeats 8000000 in
theorem permSizes_any (s : ByteArray) (A : Option Addr) (n c : Nat) (l : List Int) (N M : Int) (w : World) (hs : s.size ≤ maxLen) (_hnc : n ≤ c) (_hm : n ≤ maxLen) (hl : Reads w w.heap.size 1 A n (ints l)) (hI : ∀ x ∈ l, I64 x) (hN : I64 N) (hM : I64 M)
    (hK : Consts w) (h0 : 0 < w.heap.size) :
    Calls Tryd.prog 5 #[.string s, .slice A n c, .int .i64 N, .int .i64 M] w fun e W' => e = .returned (.bool true) ∧ Below w.heap.size w W' := by
  have b1 := around_lt N 120 (by omega)
  have a1 := fun W => around_any N 120 W hN.1 hN.2 (by omega) (by omega)
  obtain ⟨big, hbig⟩ : ∃ k : Nat, around N 120 = (k : Int) - 2 := ⟨(2 + around N 120).toNat, by omega⟩
  have hb2 : 2 ≤ big := by omega
  have hb3 : big ≤ 121 := by omega
  rw [hbig] at a1
  clear b1 hbig
  have hle := least_le hb2 (by omega)
  have hsame := fun k (h : _) (h' : _) => same_side (M := k) hb2 (by omega) h h'
  have hsd := fun W => side_any big W (by omega)
  have hp8 : 2 ^ sideE big ≤ 256 := Nat.pow_le_pow_right (n := 2) (by omega) (sideE_le big)
  have hq8 : 2 ^ sideE big * 2 ^ sideE big ≤ 65536 := Nat.mul_le_mul hp8 hp8
  have hmul : ((2 ^ sideE big : Nat) : Int) * ((2 ^ sideE big : Nat) : Int) = ((2 ^ sideE big * 2 ^ sideE big : Nat) : Int) := (Int.natCast_mul _ _).symm
  generalize 2 ^ sideE big * 2 ^ sideE big = q at *
  generalize 2 ^ sideE big = p at *
  obtain ⟨least, hleast⟩ : ∃ k : Nat, k = q / 4 + 1 := ⟨_, rfl⟩
  rw [← hleast] at hle hsame
  have hq1 : IntKind.i64.wrap ((p : Int) * (p : Int)) = (q : Int) := by rw [hmul]; simp [IntKind.wrap, IntKind.signed, IntKind.bits]; omega
  have hq2 : (q : Int).tdiv 4 = (least : Int) - 1 := by rw [Int.tdiv_eq_ediv_of_nonneg (by omega)]; omega
  have hl1 : 1 ≤ least := by omega
  clear hmul hleast
  have b2 := around_lt M ((big : Int) - (least : Int) + 1) (by omega)
  have a2 := fun W => around_any M ((big : Int) - (least : Int) + 1) W hM.1 hM.2 (by omega) (by omega)
  obtain ⟨small, hsmall⟩ : ∃ k : Nat, around M ((big : Int) - (least : Int) + 1) = (k : Int) - (least : Int) := ⟨((least : Int) + around M ((big : Int) - (least : Int) + 1)).toNat, by omega⟩
  have hs1 : least ≤ small := by omega
  have hs2 : small ≤ big := by omega
  rw [hsmall] at a2
  clear b2 hsmall
  have hss := hsame small hs1 hs2
  have A1 := Lib.hid a1
  have A2 := Lib.hid a2
  have HSD := Lib.hid hsd
  have HSS := Lib.hid hss
  clear a1 a2 hsd hss hsame
  go_enter Tryd.func5, Tryd.ntmps5
  go_wp2_with fail
  refine (seed_any s w (by unfold maxLen at hs; omega)).mono ?_
  rintro E w1 ⟨t, rfl, ht, rfl⟩
  go_wp2_with fail
  refine (path_any A n c l w1 hl hI).mono ?_
  rintro E w2 ⟨v, L, rfl, hLI, hLl, hown, c2⟩
  obtain ⟨A', c', rfl, hnet⟩ := net_of_path ht hLI hLl hown (hK.below (c2.mono h0)) (Nat.lt_of_lt_of_le h0 c2.size)
  clear hown
  go_wp2_with fail
  refine (A1.out w2).mono ?_
  rintro E w3 ⟨rfl, rfl⟩
  have e1 : (2 : Int) + ((big : Int) - 2) = (big : Int) := by omega
  go_wp2_with fail
  refine (HSD.out w3).mono ?_
  rintro E w4 ⟨rfl, rfl⟩
  have hle2 : (least : Int) ≤ (big : Int) := by omega
  go_wp2_with fail
  refine (A2.out w4).mono ?_
  rintro E w5 ⟨rfl, rfl⟩
  have e3 : (least : Int) + ((small : Int) - (least : Int)) = (small : Int) := by omega
  go_wp2_with fail
  refine (all_yes hnet big (givenE_zero (by omega) (by omega) (by omega))).mono ?_
  rintro E w6 ⟨v6, rfl, o6, b6⟩
  obtain ⟨g6, k6, rfl, hk6, -, r6⟩ := own_places1 (by omega) o6
  have c6 := below_next c2 b6
  have net6 := hnet.below b6
  clear o6
  go_wp2_with fail
  refine (all_yes net6 small (givenE_zero (by omega) (by omega) (by omega))).mono ?_
  rintro E w7 ⟨v7, rfl, o7, b7⟩
  obtain ⟨g7, k7, rfl, hk7, -, r7⟩ := own_places1 (by omega) o7
  have c7 := below_next c6 b7
  have net7 := net6.below b7
  have r6' := (r6.below b7).more b7.size
  clear o7 r6
  have hpl := fun (x : Nat) (hx : x < small) => place_small t L (N := big) (M := small) (x := x) (by omega) HSS.out hs2 hx
  have HPL := Lib.hid hpl
  clear hpl e1 e3
  go_wp2_with fail
  go_loopw [19] (fun i wr => ∃ j : Nat, j ≤ small ∧ i = .int .i64 (j : Int) ∧ ∃ m, wr = w7.drewN m) (fun i _ => (small - intOf i).toNat)
  case atStart => exact ⟨0, by omega, rfl, 0, rfl⟩
  case round =>
    obtain ⟨j, hj, rfl, m, rfl⟩ := hrel
    by_cases hlt : j < small
    · have hji : (j : Int) < (small : Int) := by omega
      have hjb : (j : Int) < (big : Int) := by omega
      have d6 : w7.cell? ⟨g6, j, none⟩ = some (.int .i64 (placeN t L big j : Int)) := r6'.place1 (by omega)
      have d7 : w7.cell? ⟨g7, j, none⟩ = some (.int .i64 (placeN t L small j : Int)) := r7.place1 hlt
      have hp := HPL.out j hlt
      have HP := Lib.hid hp
      clear hp
      by_cases hy : placeN t L big j < small
      · rw [HP.out hy] at d7
        have hyi : (placeN t L big j : Int) < (small : Int) := by omega
        generalize placeN t L big j = y at *
        clear HP hy
        go_wp2_with fail
        go_quiet (fail)
        go_wp2_with fail
        go_roundw
        case rel => exact ⟨j + 1, by omega, by go_num, _, rfl⟩
        case measure => simp [intOf]; omega
      · have hyi0 : (small : Int) ≤ (placeN t L big j : Int) := by omega
        have hyd : decide ((placeN t L big j : Int) < (small : Int)) = false := decide_eq_false (by omega)
        have hyd2 : decide (placeN t L big j < small) = false := decide_eq_false hy
        have hyd3 : ¬ (placeN t L big j < small) := hy
        generalize placeN t L big j = y at *
        clear HP hy hyi0
        go_wp2_with fail
        go_quiet (fail)
        go_wp2_with fail
        go_roundw
        case rel => exact ⟨j + 1, by omega, by go_num, _, rfl⟩
        case measure => simp [intOf]; omega
    · have hlv := lives_any (w7.drewN m) net7.consts net7.pos
      have hji : ¬ (j : Int) < (small : Int) := by omega
      go_wp2_with fail
      refine hlv.mono ?_
      rintro E w12 ⟨rfl, b12⟩
      go_wp2_with fail
      go_ret
      exact ⟨rfl, below_next (below_drewN' c7 m) b12⟩
end Go.Proofs.YtiajlglnefiemaaDoor
