/- The walk of the law PermAlone. Conditions: the round constants lie in their variable. -/
import Derived.Test.YtiajlglnefiemaaDoorPf
set_option linter.unusedSimpArgs false
set_option linter.unusedVariables false
namespace Go.Proofs.YtiajlglnefiemaaDoor
open Go.RowKit

theorem wrap64_bounds (x : Int) : -9223372036854775808 ≤ wrap64 x ∧ wrap64 x ≤ 9223372036854775807 := by unfold wrap64; omega
theorem net_of_path {t : ByteArray} {L : List Int} {v : Value} {W : World} {base : Nat} (ht : t.size ≤ 12) (hI : ∀ x ∈ L, I64 x) (hl : L.length ≤ 4) (o : W.ownsRow base 3 1 v L.length (ints L)) (hK : Consts W) (h0 : 0 < W.heap.size) :
    ∃ A c, v = .slice A L.length c ∧ Net t A L.length L W := by
  obtain ⟨A, c, rfl, -, -, -⟩ := own_slice o
  exact ⟨A, c, rfl, Reads.of_own o, hI, by omega, by omega, hK, h0⟩
set_option maxRecDepth 100000 in
set_option maxHeartbeats 8000000 in
theorem permAlone_any (s : ByteArray) (A : Option Addr) (n c : Nat) (l : List Int) (N i : Int) (o : ByteArray) (w : World) (hs : s.size ≤ maxLen) (_hnc : n ≤ c) (_hm : n ≤ maxLen) (hl : Reads w w.heap.size 1 A n (ints l)) (hI : ∀ x ∈ l, I64 x) (hN : I64 N) (hi : I64 i) (ho : o.size ≤ maxLen)
    (hK : Consts w) (h0 : 0 < w.heap.size) :
    Calls Tryd.prog 8 #[.string s, .slice A n c, .int .i64 N, .int .i64 i, .string o] w fun e W' => e = .returned (.bool true) ∧ Below w.heap.size w W' := by
  have b1 := around_lt N 100 (by omega)
  have a1 := fun W => around_any N 100 W hN.1 hN.2 (by omega) (by omega)
  obtain ⟨k, hk⟩ : ∃ k : Nat, 1 + around N 100 = (k : Int) := ⟨(1 + around N 100).toNat, by omega⟩
  have hk1 : 1 ≤ k := by omega
  have hk2 : k ≤ 100 := by omega
  have b2 := around_lt i (k : Int) (by omega)
  have a2 := fun W => around_any i (k : Int) W hi.1 hi.2 (by omega) (by omega)
  obtain ⟨j, hj⟩ : ∃ j : Nat, around i (k : Int) = (j : Int) := ⟨(around i (k : Int)).toNat, by omega⟩
  rw [hj] at a2 b2
  have hjk : j < k := by omega
  generalize around N 100 = r1 at *
  obtain rfl : r1 = (k : Int) - 1 := by omega
  have A1 := Lib.hid a1
  have A2 := Lib.hid a2
  clear a1 a2 hk hj b1
  go_enter Tryd.func8, Tryd.ntmps8
  go_wp2_with fail
  refine (seed_any s w (by unfold maxLen at hs; omega)).mono ?_
  rintro E w1 ⟨t, rfl, ht, rfl⟩
  go_wp2_with fail
  refine (path_any A n c l w1 hl hI).mono ?_
  rintro E w2 ⟨v, L, rfl, hLI, hLl, hown, c2⟩
  obtain ⟨A', c', rfl, hnet⟩ := net_of_path ht hLI hLl hown (hK.below (c2.mono h0)) (Nat.lt_of_lt_of_le h0 c2.size)
  clear hown
  go_wp2_with fail
  refine (A1.out w2).mono ?_
  rintro E w3 ⟨rfl, rfl⟩
  have e1 : (1 : Int) + ((k : Int) - 1) = (k : Int) := by omega
  have e2 : IntKind.i64.wrap ((1 : Int) + ((k : Int) - 1)) = (k : Int) := by rw [e1]; simp [IntKind.wrap, IntKind.signed, IntKind.bits]; omega
  go_wp2_with fail
  refine (A2.out w3).mono ?_
  rintro E w4 ⟨rfl, rfl⟩
  have hat := fun (W : World) (hW : Net t A' L.length L W) => at_any (c := c') hW (k : Int) (j : Int)
  rw [atV_eq _ _ _ _ _ (atE_zero (by omega) (by omega) (by omega) (by omega) (by omega)), atE_zero (s := t) (n := L.length) (N := (k : Int)) (i := (j : Int)) (by omega) (by omega) (by omega) (by omega) (by omega)] at hat
  rw [Int.toNat_natCast, Int.toNat_natCast] at hat
  have HAT := Lib.hid hat
  clear hat e1 e2
  go_wp2_with fail
  refine (HAT.out w4 hnet).mono ?_
  rintro E w5 ⟨rfl, b5⟩
  have c5 := below_next c2 b5
  have net5 := hnet.below b5
  go_wp2_with fail
  refine (all_yes net5 k (givenE_zero (by omega) (by omega) (by omega))).mono ?_
  rintro E w6 ⟨v6, rfl, o6, b6⟩
  obtain ⟨g6, k6, rfl, hk6, -, r6⟩ := own_places1 (by omega) o6
  have c6 := below_next c5 b6
  have net6 := net5.below b6
  have d6 := r6.place1 hjk
  clear o6
  go_wp2_with fail
  refine (seed_any o w6 (by unfold maxLen at ho; omega)).mono ?_
  rintro E w7 ⟨t7, rfl, ht7, rfl⟩
  go_wp2_with fail
  refine (at_any (net_none (s := t7) (by omega) net6.consts net6.pos) (k : Int) 0).mono ?_
  rintro E w8 ⟨rfl, b8⟩
  have c8 := below_next c6 b8
  have net8 := net6.below b8
  go_wp2_with fail
  have hq := wrap64_bounds (i.tdiv 2)
  have hqq := around_lt (wrap64 (i.tdiv 2)) (k : Int) (by omega)
  refine (around_any (wrap64 (i.tdiv 2)) (k : Int) w8 hq.1 hq.2 (by omega) (by omega)).mono ?_
  rintro E w9 ⟨rfl, rfl⟩
  generalize around (wrap64 (i.tdiv 2)) (k : Int) = q at *
  clear hq
  go_wp2_with fail
  refine (backw_any (c := c') net8 (k : Int) q).mono ?_
  rintro E w10 ⟨rfl, b10⟩
  have c10 := below_next c8 b10
  have net10 := net8.below b10
  go_wp2_with fail
  refine (HAT.out w10 net10).mono ?_
  rintro E w11 ⟨rfl, b11⟩
  have c11 := below_next c10 b11
  have net11 := net10.below b11
  have d11 : w11.cell? ⟨g6, j, none⟩ = some (.int .i64 (placeN t L k j : Int)) := (((((r6.below b8).more b8.size).below b10).more b10.size).below b11).place1 hjk
  have hlv := lives_any w11 net11.consts net11.pos
  generalize placeN t L k j = y at *
  clear r6 HAT A1 A2 d6
  go_wp2_with fail
  refine hlv.mono ?_
  rintro E w12 ⟨rfl, b12⟩
  go_wp2_with fail
  go_ret
  exact ⟨rfl, below_next c11 b12⟩
end Go.Proofs.YtiajlglnefiemaaDoor
