/- The small functions that the laws of perm reach: Around, At, Short, Seed, Path, Side. Conditions: the ranges that each theorem states. -/
import Derived.Test.YtiajlglnefiemaaDoorPc
set_option linter.unusedSimpArgs false
set_option linter.unusedVariables false
namespace Go.Proofs.YtiajlglnefiemaaDoor
open Go.RowKit

/-- What Around gives. -/
def around (n m : Int) : Int := if m < 1 then 0 else (if n < 0 then -(n + 1) else n) % m
theorem around_lt (n m : Int) (h : 1 ≤ m) : 0 ≤ around n m ∧ around n m < m := by
  unfold around; rw [if_neg (by omega)]
  exact ⟨Int.emod_nonneg _ (by omega), Int.emod_lt_of_pos _ (by omega)⟩
theorem around_zero (n m : Int) (h : m < 1) : around n m = 0 := by unfold around; rw [if_pos h]
theorem around_neg (n m : Int) (h1 : n < 0) (h2 : ¬ m < 1) : -(n + 1).tmod m = around n m := by
  unfold around; rw [if_neg h2, if_pos h1, ← Int.neg_tmod, Int.tmod_eq_emod_of_nonneg (by omega)]
theorem around_pos (n m : Int) (h1 : ¬ n < 0) (h2 : ¬ m < 1) : n % m = around n m := by
  unfold around; rw [if_neg h2, if_neg h1]
theorem around_any (n m : Int) (w : World) (hn1 : -9223372036854775808 ≤ n) (hn2 : n ≤ 9223372036854775807) (hm1 : -9223372036854775808 ≤ m) (hm2 : m ≤ 9223372036854775807) :
    Calls Tryd.prog 15 #[.int .i64 n, .int .i64 m] w fun e w' => e = .returned (.int .i64 (around n m)) ∧ w' = w := by
  by_cases h1 : n < 0 <;> by_cases h2 : m < 1
  all_goals
    go_enter Tryd.func15, Tryd.ntmps15
    go_wp2
    go_ret
  · exact ⟨ret_i64 (around_zero _ _ h2).symm, rfl⟩
  · exact ⟨ret_i64 (around_neg _ _ h1 (by omega)), rfl⟩
  · exact ⟨ret_i64 (around_zero _ _ h2).symm, rfl⟩
  · exact ⟨ret_i64 (around_pos _ _ (by omega) (by omega)), rfl⟩

/-- What At gives. -/
def rAt (l : List Int) (i : Nat) (m : Int) : Int := if l.length ≤ i then 0 else around (l[i]?.getD 0) m
theorem rAt_lt (l : List Int) (i : Nat) (m : Int) (h : 1 ≤ m) : 0 ≤ rAt l i m ∧ rAt l i m < m := by
  unfold rAt
  split
  · omega
  · exact around_lt _ _ h
set_option maxRecDepth 100000 in
set_option maxHeartbeats 2000000 in
theorem rAt_any (A : Option Addr) (n c B : Nat) (l : List Int) (i : Nat) (m : Int) (w : World) (hl : Reads w B 1 A n (ints l)) (hI : ∀ x ∈ l, I64 x) (hi : i ≤ 1000000) (hm : I64 m) :
    Calls Tryd.prog 48 #[.slice A n c, .int .i64 (i : Int), .int .i64 m] w fun e w' => e = .returned (.int .i64 (rAt l i m)) ∧ w' = w := by
  have el := hl.int_len
  by_cases h : i < n
  · obtain ⟨ad, rfl, -, hlt, hc⟩ := hl.int_at h
    have e1 : rAt l i m = around (l[i]?.getD 0) m := by unfold rAt; rw [if_neg (by omega)]
    have hx : I64 (l[i]?.getD 0) := by rw [List.getElem?_eq_getElem hlt]; exact hI _ (List.getElem_mem _)
    rw [e1]
    have ha := around_any (l[i]?.getD 0) m w hx.1 hx.2 hm.1 hm.2
    generalize l[i]?.getD 0 = x at *
    have hin : (i : Int) < (n : Int) := by omega
    clear e1 el
    go_enter Tryd.func48, Tryd.ntmps48
    go_wp2_with fail
    refine ha.mono ?_
    rintro E w1 ⟨rfl, rfl⟩
    go_wp2_with fail
    go_ret
    exact ⟨rfl, rfl⟩
  · have e1 : rAt l i m = 0 := by unfold rAt; rw [if_pos (by omega)]
    rw [e1]
    have hin : ¬ (i : Int) < (n : Int) := by omega
    have hin2 : (n : Int) ≤ (i : Int) := by omega
    clear e1 el
    go_enter Tryd.func48, Tryd.ntmps48
    go_wp2_with fail
    go_ret
    exact ⟨rfl, rfl⟩
set_option maxRecDepth 100000 in
set_option maxHeartbeats 2000000 in
theorem short_any (s : ByteArray) (m : Nat) (w : World) (hm : m ≤ 1000000) (hs : s.size ≤ 9223372036854775807) :
    Calls Tryd.prog 13 #[.string s, .int .i64 (m : Int)] w fun e w' => ∃ t, e = .returned (.string t) ∧ t.size ≤ m ∧ w' = w := by
  by_cases h : (m : Int) < (s.size : Int)
  · go_enter Tryd.func13, Tryd.ntmps13
    go_wp2_with fail
    go_ret
    exact ⟨_, rfl, by rw [ByteArray.size_extract]; omega, rfl⟩
  · go_enter Tryd.func13, Tryd.ntmps13
    go_wp2_with fail
    go_ret
    exact ⟨_, rfl, by omega, rfl⟩
set_option maxRecDepth 100000 in
set_option maxHeartbeats 2000000 in
theorem seed_any (s : ByteArray) (w : World) (hs : s.size ≤ 9223372036854775807) :
    Calls Tryd.prog 20 #[.string s] w fun e w' => ∃ t, e = .returned (.string t) ∧ t.size ≤ 12 ∧ w' = w := by
  go_enter Tryd.func20, Tryd.ntmps20
  go_wp2_with fail
  refine (short_any s 12 w (by omega) hs).mono ?_
  rintro E w1 ⟨t, rfl, ht, rfl⟩
  go_wp2_with fail
  go_ret
  exact ⟨_, rfl, ht, rfl⟩
set_option maxRecDepth 100000 in
set_option maxHeartbeats 2000000 in
theorem path_any (A : Option Addr) (n c : Nat) (l : List Int) (w : World) (hl : Reads w w.heap.size 1 A n (ints l)) (hI : ∀ x ∈ l, I64 x) :
    Calls Tryd.prog 21 #[.slice A n c] w fun e W' => ∃ v L, e = .returned v ∧ (∀ x ∈ L, I64 x) ∧ L.length ≤ 4 ∧ W'.ownsRow w.heap.size 3 1 v L.length (ints L) ∧ Below w.heap.size w W' := by
  obtain ⟨i0, hi, hz0, hz1, hz2⟩ := info_parts info_i64
  have hr0 := fun (W : World) (hb : Below w.heap.size w W) => rAt_any A n c w.heap.size l 0 5 W (hl.below hb) hI (by omega) ⟨by omega, by omega⟩
  have hr1 := fun (W : World) (j : Nat) (hj : j ≤ 4) (hb : Below w.heap.size w W) => rAt_any A n c w.heap.size l (1 + j) 40 W (hl.below hb) hI (by omega) ⟨by omega, by omega⟩
  have b0 := rAt_lt l 0 5 (by omega)
  have b1 := fun j => rAt_lt l (1 + j) 40 (by omega)
  generalize rAt l 0 5 = q at *
  have H0 := Lib.hid hr0
  have H1 := Lib.hid hr1
  have HB1 := Lib.hid b1
  clear hr0 hr1 b1
  go_enter Tryd.func21, Tryd.ntmps21
  go_wp2_with fail
  go_loopw [3, 4] (fun v i wr => ∃ (j : Nat) (L : List Int), j ≤ 4 ∧ i = .int .i64 (j : Int) ∧ Hid (L.length = j) ∧ (∀ x ∈ L, I64 x) ∧ wr.ownsRow w.heap.size 3 1 v j (ints L) ∧ Below w.heap.size w wr) (fun _ i _ => (5 - intOf i).toNat)
  case atStart => exact ⟨0, [], by omega, rfl, Lib.hid rfl, by simp, World.ownsRow_nil _ _ _ _, Below.refl _ _⟩
  case round =>
    obtain ⟨j, L, hj, rfl, HL, hLI, ho, hb⟩ := hrel
    have HLI := Lib.hid hLI
    clear hLI
    by_cases hlt : (j : Int) < q
    · have hk := H1.out wr j hj hb
      have hkb := HB1.out j
      have e1 : ((1 + j : Nat) : Int) = 1 + (j : Int) := by omega
      rw [e1] at hk
      generalize rAt l (1 + j) 40 = x at *
      have HK := Lib.hid hk
      clear hk e1
      go_wp2_with fail
      refine (H0.out wr hb).mono ?_
      rintro E w1 ⟨rfl, rfl⟩
      go_wp2_with fail
      refine HK.out.mono ?_
      rintro E w2 ⟨rfl, rfl⟩
      go_wp2_with (at_builtin; refine wpList_append_own _ rfl _ _ 22 rfl w.heap.size 3 i0 (.int .i64 0) 1 8 Tryd.underlying22 hi hz0 hz1 hz2 rfl (by decide) _ _ _ rfl (ho.alloc _) ⟨w2.heap.size, 0, none⟩ 1 1 [.int .i64 (x - 4)] rfl rfl (cell_one_new _ _ _) (by simp [Value.oneCell']) (by unfold maxLen; omega) (by omega) (by have := hb.size; simp; omega) ?_; intro v3 w3 o3 g3 _)
      have b3 : Below w.heap.size w w3 := (hb.alloc hb.size _).grown g3 (by have := hb.size; simp; omega) (fun k e => (ho.lt k e).1)
      go_roundw
      case rel => exact ⟨j + 1, L ++ [x - 4], by omega, by go_num, Lib.hid (by rw [List.length_append, HL.out]; rfl), by
        intro y hy
        rcases List.mem_append.1 hy with h | h
        · exact HLI.out y h
        · rw [List.mem_singleton.1 h]; exact ⟨by omega, by omega⟩, by rw [ints_snoc]; exact o3, b3⟩
      case measure => simp [intOf]; omega
    · go_wp2_with fail
      refine (H0.out wr hb).mono ?_
      rintro E w1 ⟨rfl, rfl⟩
      go_wp2_with fail
      go_ret
      exact ⟨_, L, rfl, HLI.out, by rw [HL.out]; exact hj, by rw [HL.out]; exact ho, hb⟩
end Go.Proofs.YtiajlglnefiemaaDoor
