/- The walk of the law PermPlaces. Conditions: the round constants lie in their variables. -/
import Derived.Test.YtiajlglnefiemaaDoorQh
import Derived.StillTailTactics
import Derived.Deep.RegionHeld3
set_option linter.unusedSimpArgs false
set_option linter.unusedVariables false
namespace Go.Proofs.YtiajlglnefiemaaDoor
open Go.RowKit

theorem ints3_at (a b c : Int) {k : Nat} (h : k < 3) (ha : I64 a) (hb : I64 b) (hc : I64 c) : ∃ x, (#[Value.int .i64 a, .int .i64 b, .int .i64 c])[k]? = some (.int .i64 x) ∧ I64 x := by
  have : k = 0 ∨ k = 1 ∨ k = 2 := by omega
  rcases this with rfl | rfl | rfl
  · exact ⟨_, rfl, ha⟩
  · exact ⟨_, rfl, hb⟩
  · exact ⟨_, rfl, hc⟩
set_option maxRecDepth 100000 in
set_option maxHeartbeats 8000000 in
theorem permPlaces_any (s : ByteArray) (A : Option Addr) (n c : Nat) (l : List Int) (N I : Int) (w : World) (hs : s.size ≤ maxLen) (hnc : n ≤ c) (hm : n ≤ maxLen) (hl : Reads w w.heap.size 1 A n (ints l)) (hI : ∀ x ∈ l, I64 x) (hN : I64 N) (hi : I64 I)
    (hK : Consts w) (hR : RConsts w) (h1 : 1 < w.heap.size) :
    Calls Tryd.prog 6 #[.string s, .slice A n c, .int .i64 N, .int .i64 I] w fun e W' => e = .returned (.bool true) ∧ Below w.heap.size w W' := by
  have a1 := fun W => around_any N 90 W hN.1 hN.2 (by omega) (by omega)
  have a2 := fun W => around_any N 65536 W hN.1 hN.2 (by omega) (by omega)
  have b1 := around_lt N 90 (by omega)
  have b2 := around_lt N 65536 (by omega)
  generalize around N 90 = r1 at *
  generalize around N 65536 = r2 at *
  have A1 := Lib.hid a1
  have A2 := Lib.hid a2
  clear a1 a2
  go_enter Tryd.func6, Tryd.ntmps6
  go_wp2_with fail
  refine (short_any s 34 w (by omega) (by unfold maxLen at hs; omega)).mono ?_
  rintro E w1 ⟨t, rfl, ht, rfl⟩
  go_wp2_with fail
  refine (few10_any A n c l w1 hl hnc hm).mono ?_
  rintro E w2 ⟨v, rfl, hown, c2⟩
  obtain ⟨A', c', rfl, hnet, hrnet⟩ := net_of_few ht (fun x hx => hI x (List.mem_of_mem_take hx)) (by rw [List.length_take]; omega) hown (hK.below (c2.mono (by omega))) (hR.below (c2.mono h1)) (Nat.lt_of_lt_of_le h1 c2.size)
  clear hown
  generalize l.take 10 = L at *
  go_wp2_with fail
  refine (A1.out w2).mono ?_
  rintro E w3 ⟨rfl, rfl⟩
  go_wp2_with fail
  refine (A2.out w3).mono ?_
  rintro E w4 ⟨rfl, rfl⟩
  go_wp2_with fail
  have hcell := fun k (hk : k < 3) => ints3_at (1 + r1) (1 + r2) N hk ⟨by omega, by omega⟩ ⟨by omega, by omega⟩ hN
  generalize (#[Value.int .i64 (1 + r1), .int .i64 (1 + r2), .int .i64 N] : Array Value) = cs at *
  have M0 : Blk (w4.alloc (.cells cs 3)) w4.heap.size 3 cs := Blk.new w4 3 _
  have C0 : Below w4.heap.size w4 (w4.alloc (.cells cs 3)) := (Below.refl _ w4).alloc (Nat.le_refl _) _
  have HC := Lib.hid hcell
  clear hcell A1 A2
  go_loopw [12] (fun v wr => ∃ j : Nat, j ≤ 3 ∧ v = .int .i64 (j : Int) ∧ Blk wr w4.heap.size 3 cs ∧ Below w4.heap.size w4 wr) (fun v _ => (3 - intOf v).toNat)
  case atStart => exact ⟨0, by omega, rfl, M0, C0⟩
  case round =>
    clear M0 C0
    obtain ⟨j, hj, rfl, hM, hb⟩ := hrel
    by_cases hlt : j < 3
    · have hji : (j : Int) < 3 := by omega
      obtain ⟨x, hx, hx64⟩ := HC.out j hlt
      have hc0 := hM.at_ hx
      have hmx : -9223372036854775808 ≤ (if x < 1 then 1 else x) ∧ (if x < 1 then 1 else x) ≤ 9223372036854775807 := by have h64 := hx64.1; have h65 := hx64.2; split <;> omega
      have hca := fun W => around_any I (if x < 1 then 1 else x) W hi.1 hi.2 hmx.1 hmx.2
      generalize hy0 : around I (if x < 1 then 1 else x) = y0 at *
      clear hy0
      generalize hmm : (if x < 1 then 1 else x) = mx at *
      have HCA := Lib.hid hca
      clear hca hmx
      go_wp2_with fail
      refine wp_region_still_tail 17 (by kernel_rfl) (by kernel_rfl) ?_
      simp only [List.take_succ_cons, List.take_zero, List.drop_succ_cons, List.drop_zero]
      repeat still_step
      try simp only [hmm]
      still_call (HCA.out _)
      repeat still_step
      refine wpStill_nil ?_
      change wpList _ _ _ _ _ wr.drew
      have hMd := hM.drew
      have hbd := below_drewN hb 1
      change Below w4.heap.size w4 wr.drew at hbd
      clear hM hb hc0
      generalize wr.drew = w5 at *
      go_wp2_with fail
      have hds := fun k (hk : k < 4) => ints4_at y0 I (wrap64 (x - 1)) x hk
      generalize (#[Value.int .i64 y0, .int .i64 I, .int .i64 (wrap64 (x - 1)), .int .i64 x] : Array Value) = ds at *
      have D0 := Blk.new w5 3 ds
      have E0 := hMd.alloc (.cells ds 3)
      have F0 := hbd.alloc hbd.size (.cells ds 3)
      have HD := Lib.hid hds
      clear hds hMd hbd
      generalize w5.alloc (.cells ds 3) = w6 at *
      generalize w5.heap.size = g5 at *
      go_loopw [14] (fun v wr => ∃ i : Nat, i ≤ 4 ∧ v = .int .i64 (i : Int) ∧ Blk wr w4.heap.size 3 cs ∧ Blk wr g5 3 ds ∧ Below w4.heap.size w4 wr) (fun v _ => (4 - intOf v).toNat)
      case atStart => exact ⟨0, by omega, rfl, E0, D0, F0⟩
      case round =>
        clear D0 E0 F0
        obtain ⟨i, hi4, rfl, hC, hD, hB⟩ := hrel
        by_cases hil : i < 4
        · have hii : (i : Int) < 4 := by omega
          obtain ⟨z, hz⟩ := HD.out i hil
          have hc0 := hC.at_ hx
          have hd0 := hD.at_ hz
          have p1 := fun (W : World) (h : Below w4.heap.size w4 W) => at_any (c := c') (hnet.below h) x z
          have p2 := fun (W : World) (h : Below w4.heap.size w4 W) => rPlaceAt_any (c := c') (hrnet.below h) x z
          have p3 := fun (W : World) (h : Below w4.heap.size w4 W) => backw_any (c := c') (hnet.below h) x z
          have p4 := fun (W : World) (h : Below w4.heap.size w4 W) => rPlaceBack_any (c := c') (hrnet.below h) x z
          generalize atV t L.length L x z = v1 at *
          generalize backV t L.length L x z = v2 at *
          generalize atE t L.length x z = e1 at *
          have P1 := Lib.hid p1
          have P2 := Lib.hid p2
          have P3 := Lib.hid p3
          have P4 := Lib.hid p4
          clear p1 p2 p3 p4
          have hBd1 := below_drewN hB 1
          change Below w4.heap.size w4 wr.drew at hBd1
          go_wp2_with fail
          go_region_held3 (fun W => W.cell? ⟨w4.heap.size, j, none⟩ = some (.int .i64 x) ∧ W.cell? ⟨g5, i, none⟩ = some (.int .i64 z))
            (first | exact ⟨hc0, hd0⟩ | exact ⟨hc1, hd1⟩)
            (first | (go_at_call 24; refine (P1.out wr.drew hBd1).mono ?_; rintro E wx1 ⟨rfl, b1⟩; have hC1 := hC.drew.thru b1; have hD1 := hD.drew.thru b1; have hB1 := below_next hBd1 b1; have hc1 := hC1.at_ hx; have hd1 := hD1.at_ hz))
          clear b1 hBd1 hC hD hB hc0 hd0
          have hBd2 := below_drewN hB1 1
          change Below w4.heap.size w4 wx1.drew at hBd2
          go_wp2_with fail
          go_region_held3 (fun W => W.cell? ⟨w4.heap.size, j, none⟩ = some (.int .i64 x) ∧ W.cell? ⟨g5, i, none⟩ = some (.int .i64 z))
            (first | exact ⟨hc1, hd1⟩ | exact ⟨hc2, hd2⟩)
            (first | (go_at_call 25; refine (P2.out wx1.drew hBd2).mono ?_; rintro E wx2 ⟨rfl, b2⟩; have hC2 := hC1.drew.thru b2; have hD2 := hD1.drew.thru b2; have hB2 := below_next hBd2 b2; have hc2 := hC2.at_ hx; have hd2 := hD2.at_ hz))
          clear b2 hBd2 hC1 hD1 hB1 hc1 hd1
          have hBd3 := below_drewN hB2 1
          change Below w4.heap.size w4 wx2.drew at hBd3
          go_wp2_with fail
          go_region_held3 (fun W => W.cell? ⟨w4.heap.size, j, none⟩ = some (.int .i64 x) ∧ W.cell? ⟨g5, i, none⟩ = some (.int .i64 z))
            (first | exact ⟨hc2, hd2⟩ | exact ⟨hc3, hd3⟩)
            (first | (go_at_call 26; refine (P3.out wx2.drew hBd3).mono ?_; rintro E wx3 ⟨rfl, b3⟩; have hC3 := hC2.drew.thru b3; have hD3 := hD2.drew.thru b3; have hB3 := below_next hBd3 b3; have hc3 := hC3.at_ hx; have hd3 := hD3.at_ hz))
          clear b3 hBd3 hC2 hD2 hB2 hc2 hd2
          have hBd4 := below_drewN hB3 1
          change Below w4.heap.size w4 wx3.drew at hBd4
          go_wp2_with fail
          go_region_held3 (fun W => W.cell? ⟨w4.heap.size, j, none⟩ = some (.int .i64 x) ∧ W.cell? ⟨g5, i, none⟩ = some (.int .i64 z))
            (first | exact ⟨hc3, hd3⟩ | exact ⟨hc4, hd4⟩)
            (first | (go_at_call 27; refine (P4.out wx3.drew hBd4).mono ?_; rintro E wx4 ⟨rfl, b4⟩; have hC4 := hC3.drew.thru b4; have hD4 := hD3.drew.thru b4; have hB4 := below_next hBd4 b4; have hc4 := hC4.at_ hx; have hd4 := hD4.at_ hz))
          clear b4 hBd4 hC3 hD3 hB3 hc3 hd3
          go_wp2_with fail
          go_roundw
          case rel => exact ⟨i + 1, by omega, by go_num, hC4, hD4, hB4⟩
          case measure => simp [intOf]; omega
        · have hii : ¬ (i : Int) < 4 := by omega
          go_wp2_with fail
          go_roundw
          case rel => exact ⟨j + 1, by omega, by go_num, hC, hB⟩
          case measure => simp [intOf]; omega
    · have hlv := lives_any wr (hnet.below hb).consts (hnet.below hb).pos
      have hji : ¬ (j : Int) < 3 := by omega
      go_wp2_with fail
      refine hlv.mono ?_
      rintro E w12 ⟨rfl, b12⟩
      go_wp2_with fail
      go_ret
      exact ⟨rfl, below_next (below_next c2 hb) b12⟩
end Go.Proofs.YtiajlglnefiemaaDoor
