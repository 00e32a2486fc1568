/- The walk of the law PermAll. Conditions: the round constants lie in their variables. -/
import Derived.Test.YtiajlglnefiemaaDoorQg
set_option linter.unusedSimpArgs false
set_option linter.unusedVariables false
namespace Go.Proofs.YtiajlglnefiemaaDoor
open Go.RowKit

theorem net_of_few {t : ByteArray} {L : List Int} {v : Value} {W : World} {base : Nat} (ht : t.size ≤ 34) (hI : ∀ x ∈ L, I64 x) (hl : L.length ≤ 10) (o : W.ownsRow base 3 1 v L.length (ints L)) (hK : Consts W) (hR : RConsts W) (h1 : 1 < W.heap.size) :
    ∃ A c, v = .slice A L.length c ∧ Net t A L.length L W ∧ RNet t A L.length L W := by
  obtain ⟨A, c, rfl, -, -, -⟩ := own_slice o
  exact ⟨A, c, rfl, ⟨Reads.of_own o, hI, by omega, by omega, hK, by omega⟩, ⟨Reads.of_own o, hI, by omega, by omega, hR, h1⟩⟩
theorem ints4_at (a b c d : Int) {k : Nat} (h : k < 4) : ∃ x, (#[Value.int .i64 a, .int .i64 b, .int .i64 c, .int .i64 d])[k]? = some (.int .i64 x) := by
  have : k = 0 ∨ k = 1 ∨ k = 2 ∨ k = 3 := by omega
  rcases this with rfl | rfl | rfl | rfl <;> exact ⟨_, rfl⟩
set_option maxRecDepth 100000 in
set_option maxHeartbeats 8000000 in
theorem permAll_any (s : ByteArray) (A : Option Addr) (n c : Nat) (l : List Int) (N : Int) (w : World) (hs : s.size ≤ maxLen) (hnc : n ≤ c) (hm : n ≤ maxLen) (hl : Reads w w.heap.size 1 A n (ints l)) (hI : ∀ x ∈ l, I64 x) (hN : I64 N)
    (hK : Consts w) (hR : RConsts w) (h1 : 1 < w.heap.size) :
    Calls Tryd.prog 3 #[.string s, .slice A n c, .int .i64 N] w fun e W' => e = .returned (.bool true) ∧ Below w.heap.size w W' := by
  have a1 := fun W => around_any N 70 W hN.1 hN.2 (by omega) (by omega)
  have a2 := fun W => around_any N 9 W hN.1 hN.2 (by omega) (by omega)
  have b1 := around_lt N 70 (by omega)
  have b2 := around_lt N 9 (by omega)
  generalize around N 70 = r1 at *
  generalize around N 9 = r2 at *
  have A1 := Lib.hid a1
  have A2 := Lib.hid a2
  clear a1 a2
  go_enter Tryd.func3, Tryd.ntmps3
  go_wp2_with fail
  refine (short_any s 34 w (by omega) (by unfold maxLen at hs; omega)).mono ?_
  rintro E w1 ⟨t, rfl, ht, rfl⟩
  go_wp2_with fail
  refine (few10_any A n c l w1 hl hnc hm).mono ?_
  rintro E w2 ⟨v, rfl, hown, c2⟩
  obtain ⟨A', c', rfl, hnet, hrnet⟩ := net_of_few ht (fun x hx => hI x (List.mem_of_mem_take hx)) (by rw [List.length_take]; omega) hown (hK.below (c2.mono (by omega))) (hR.below (c2.mono h1)) (Nat.lt_of_lt_of_le h1 c2.size)
  clear hown
  generalize l.take 10 = L at *
  go_wp2_with fail
  refine (A1.out w2).mono ?_
  rintro E w3 ⟨rfl, rfl⟩
  go_wp2_with fail
  refine (A2.out w3).mono ?_
  rintro E w4 ⟨rfl, rfl⟩
  go_wp2_with fail
  refine (A2.out w4).mono ?_
  rintro E w5 ⟨rfl, rfl⟩
  go_wp2_with fail
  have hcell := fun k (hk : k < 4) => ints4_at r1 (65537 + r2) (-1 - r2) 0 hk
  generalize (#[Value.int .i64 r1, .int .i64 (65537 + r2), .int .i64 (-1 - r2), .int .i64 0] : Array Value) = cs at *
  have M0 : Blk (w5.alloc (.cells cs 3)) w5.heap.size 3 cs := Blk.new w5 3 _
  have C0 : Below w5.heap.size w5 (w5.alloc (.cells cs 3)) := (Below.refl _ w5).alloc (Nat.le_refl _) _
  have HC := Lib.hid hcell
  clear hcell A1 A2
  go_loopw [10] (fun v wr => ∃ j : Nat, j ≤ 4 ∧ v = .int .i64 (j : Int) ∧ Blk wr w5.heap.size 3 cs ∧ Below w5.heap.size w5 wr) (fun v _ => (4 - intOf v).toNat)
  case atStart => exact ⟨0, by omega, rfl, M0, C0⟩
  case round =>
    clear M0 C0
    obtain ⟨j, hj, rfl, hM, hb⟩ := hrel
    by_cases hlt : j < 4
    · have hji : (j : Int) < 4 := by omega
      obtain ⟨x, hx⟩ := HC.out j hlt
      have hc0 := hM.at_ hx
      have hp := pAll_any (c := c') (hnet.below hb) x
      have hr := fun (W : World) (h : Below w5.heap.size w5 W) => rAll_any (c := c') (hrnet.below h) x
      have hlen := allL_le t L.length L x
      generalize allL t L.length L x = R1 at *
      generalize allE t L.length x = e1 at *
      have HP := Lib.hid hp
      have HR := Lib.hid hr
      clear hp hr
      go_wp2_with fail
      refine HP.out.mono ?_
      rintro E w6 ⟨A6, k6, rfl, r6, b6⟩
      have hM6 := hM.thru b6
      have hc6 := hM6.at_ hx
      have hb6 := below_next hb b6
      go_wp2_with fail
      refine (HR.out w6 hb6).mono ?_
      rintro E w7 ⟨A7, k7, rfl, r7, b7⟩
      have hM7 := hM6.thru b7
      have hb7 := below_next hb6 b7
      have hsm := sameInts_any A6 A7 R1.length R1.length k6 k7 (R1.map fun (x : Nat) => (x : Int)) (R1.map fun (x : Nat) => (x : Int)) w7.heap.size w7 ((r6.below b7).more b7.size) r7 (by omega) (by omega)
      simp only [decide_true] at hsm
      have HS := Lib.hid hsm
      clear hsm r6 r7
      go_wp2_with fail
      refine HS.out.mono ?_
      rintro E w8 ⟨rfl, q, rfl⟩
      have hM8 : Blk (w7.drewN q) w5.heap.size 3 cs := hM7.drewN q
      have hb8 : Below w5.heap.size w5 (w7.drewN q) := below_drewN hb7 q
      go_wp2_with fail
      go_roundw
      case rel => exact ⟨j + 1, by omega, by go_num, hM8, hb8⟩
      case measure => simp [intOf]; omega
    · have hlv := lives_any wr (hnet.below hb).consts (hnet.below hb).pos
      have hji : ¬ (j : Int) < 4 := by omega
      go_wp2_with fail
      refine hlv.mono ?_
      rintro E w12 ⟨rfl, b12⟩
      go_wp2_with fail
      go_ret
      exact ⟨rfl, below_next (below_next c2 hb) b12⟩
end Go.Proofs.YtiajlglnefiemaaDoor
