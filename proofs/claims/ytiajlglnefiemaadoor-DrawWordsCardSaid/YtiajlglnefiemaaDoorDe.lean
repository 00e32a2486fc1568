/- The walk of the law DrawWords. Conditions: the round constants lie in their variables. -/
import Derived.Test.YtiajlglnefiemaaDoorDd
set_option linter.unusedSimpArgs false
set_option linter.unusedVariables false
namespace Go.Proofs.YtiajlglnefiemaaDoor
open Go.RowKit

set_option maxRecDepth 100000 in
set_option maxHeartbeats 8000000 in
theorem drawWords_any (s0 : ByteArray) (A0 : Option Addr) (n0 c0 : Nat) (l0 : List Int) (t : Int) (w0 : World) (hs0 : s0.size ≤ maxLen) (hnc : n0 ≤ c0) (hm : n0 ≤ maxLen) (hl0 : Reads w0 w0.heap.size 1 A0 n0 (ints l0)) (hI0 : ∀ x ∈ l0, I64 x) (ht : I64 t)
    (hK0 : Consts w0) (hR0 : RConsts w0) (h10 : 1 < w0.heap.size) :
    Calls Tryd.prog 9 #[.string s0, .slice A0 n0 c0, .int .i64 t] w0 fun e W' => e = .returned (.bool true) ∧ Below w0.heap.size w0 W' := by
  obtain ⟨i0, hi, hz0, hz1, hz2⟩ := info_parts info_i64
  go_enter Tryd.func9, Tryd.ntmps9
  go_wp2_with fail
  refine (short_any s0 60 w0 (by omega) (by unfold maxLen at hs0; omega)).mono ?_
  rintro E w1 ⟨s, rfl, hs, rfl⟩
  go_wp2_with fail
  refine (take_any A0 n0 c0 20 l0 w1 hl0 hnc hm (by omega)).mono ?_
  rintro E w2 ⟨v, rfl, o2, d2⟩
  have hI : ∀ x ∈ l0.take 20, I64 x := fun x hx => hI0 x (List.mem_of_mem_take hx)
  have hlen : (l0.take 20).length ≤ 20 := by rw [List.length_take]; omega
  generalize l0.take 20 = l at *
  obtain ⟨A, c, rfl, -, -, -⟩ := own_slice o2
  have hl2 := Reads.of_own o2
  have hK2 := hK0.below (d2.mono (by omega))
  have hR2 := hR0.below (d2.mono h10)
  have h12 : 1 < w2.heap.size := Nat.lt_of_lt_of_le h10 d2.size
  clear o2
  go_wp2_with fail
  refine (word_any s A l.length c l t w2 hl2 hI ht (by omega) (by omega) hK2 (by omega)).mono ?_
  rintro E w ⟨rfl, b0⟩
  have hl := (hl2.below b0).more b0.size
  have hK := hK2.below (b0.mono (by omega))
  have hR := hR2.below (b0.mono h12)
  have h1 : 1 < w.heap.size := Nat.lt_of_lt_of_le h12 b0.size
  have d0 := below_next d2 b0
  clear d2 b0 hl2 hK2 hR2 h12
  go_wp2_with (first
    | (at_builtin; refine wpList_append_reads _ rfl _ _ 22 rfl w.heap.size 3 i0 (.int .i64 0) 1 8 Tryd.underlying22 hi hz0 hz1 hz2 rfl (by decide) _ _ _ rfl (own_new w 3 #[] _ (Nat.le_refl _) (by unfold maxLen; simp)) _ A l.length c (ints l) rfl (hl.alloc (Nat.le_refl _) _) (ints_one _) (by unfold maxLen; simp; omega) (by simp; omega) (by simp) ?_; intro v1 w3 o1 g1; have b1 : Below w.heap.size w w3 := ((Below.refl _ w).alloc (Nat.le_refl _) _).grown g1 (by simp) (fun k e => by have e2 : some w.heap.size = some k := e; injection e2 with e2; omega))
    | (at_builtin; refine wpList_append_own _ rfl _ _ 22 rfl w.heap.size 3 i0 (.int .i64 0) 1 8 Tryd.underlying22 hi hz0 hz1 hz2 rfl (by decide) _ _ _ rfl (o1.alloc _) ⟨w3.heap.size, 0, none⟩ 1 1 [.int .i64 t] rfl rfl (cell_one_new _ _ _) (by simp [Value.oneCell']) (by unfold maxLen; simp; omega) (by simp; omega) (by have := b1.size; simp; omega) ?_; intro v2 w4 o2' g2 _))
  have b2 : Below w.heap.size w w4 := (b1.alloc b1.size _).grown g2 (by have := b1.size; simp; omega) (fun k e => (o1.lt k e).1)
  have o2 : w4.ownsRow w.heap.size 3 1 v2 (l.length + 1) (ints l ++ [.int .i64 t]) := by simpa using o2'
  clear o2'
  obtain ⟨A2, c2, rfl, hr2⟩ := own_reads1 o2
  have e2 : ints l ++ [Value.int .i64 t] = ints (l ++ [t]) := (ints_snoc l t).symm
  have l2 : l.length + 1 = (l ++ [t]).length := by simp
  rw [e2, l2] at hr2
  rw [l2]
  obtain ⟨L2, hL2⟩ : ∃ L2, L2 = l ++ [t] := ⟨_, rfl⟩
  have hI2 : ∀ x ∈ L2, I64 x := by
    intro x hx
    rw [hL2] at hx
    rcases List.mem_append.1 hx with h | h
    · exact hI x h
    · rw [List.mem_singleton.1 h]; exact ht
  have hn2 : L2.length ≤ 1001 := by rw [hL2]; simp; omega
  rw [← hL2] at hr2 ⊢
  have HL2 := Lib.hid hL2
  clear hL2 e2 l2 o2 o1 g2
  go_wp2_with fail
  refine (wInts_any A2 L2.length c2 L2 w4 hr2 hI2 (by omega)).mono ?_
  rintro e w5 ⟨v3, rfl, o3, b3⟩
  have b4 := below_step b2 (Nat.le_refl _) b3
  have hcv := own_conv o3 (by unfold encInts; rw [List.length_append, encInt_length]; omega)
  go_wp2_with fail
  have hle : (encInts L2).length ≤ 20000 := by
    unfold encInts
    have h1 := cat_le L2 hI2
    have h2 := encInt_le (L2.length : Int) (I64.nat (by omega))
    rw [List.length_append]
    show (encInt (L2.length : Int)).length + (cat L2).length ≤ 20000
    omega
  have htx : (txt (encInts L2)).size = (encInts L2).length := by simp [txt, ByteArray.size]
  obtain ⟨H, hH⟩ : ∃ H, H = ofH 8 [s, txt (encInts L2)] := ⟨_, rfl⟩
  have b5 := b4.alloc b4.size (.cells #[.string s, .string (txt (encInts L2))] 9)
  have hof := of_any 8 (some ⟨w5.heap.size, 0, none⟩) 2 2 [s, txt (encInts L2)] (w5.alloc (.cells #[.string s, .string (txt (encInts L2))] 9)) (reads_pair w5 s (txt (encInts L2))) (by rw [sizes, sizes, sizes, htx]; omega) (by omega) (by omega)
    (hK.below (b5.mono (by omega))) (by simp)
  rw [← hH] at hof
  have hHl : H.length = 16 := by rw [hH, ofH, List.length_take]; rw [show (sha (ofM 8 [s, txt (encInts L2)])).length = 32 from outTo_length _ 32]; rfl
  have hword : wordN s l t = num (H.take 6) := by rw [wordN, ← HL2.out, ← hH]
  obtain ⟨V, hV⟩ : ∃ V, V = (bytesV H).toArray := ⟨_, rfl⟩
  rw [← hV] at hof
  have G1 : Hid ((Tryd.prog.info? 43).map (·.size) = some V.size) := Lib.hid (by rw [hV, List.size_toArray, bytesV_length, hHl]; exact info43)
  have G2 : Hid (Z16.size = V.size) := Lib.hid (by rw [hV]; show 16 = (bytesV H).toArray.size; rw [List.size_toArray, bytesV_length, hHl])
  have G3 : Hid (V.all (·.oneCell') = true) := Lib.hid (by rw [hV]; exact all_oneCell_toArray (bytesV_one _))
  have HV := Lib.hid hV
  have HH := Lib.hid hH
  have HW := Lib.hid hword
  clear hV hH hword
  have hwl := wordN_lt s l t
  have hrw := fun W (hB : Below w.heap.size w W) => rWord_any s A l.length c l t W ((hl.below hB).more hB.size) hI ht (by omega) (by omega) (hR.below (hB.mono h1)) (Nat.lt_of_lt_of_le h1 hB.size)
  generalize wordN s l t = X at *
  have HR := Lib.hid hrw
  clear hrw
  refine hof.mono ?_
  rintro e w7 ⟨rfl, b7⟩
  have b6 := below_step b5 (Nat.le_refl _) b7
  go_wp2_with (first
    | (with_reducible refine wpList_store_row rfl 43 _ _ rfl w7.heap.size V rfl rfl 43 Z16 (heap_alloc_new w7 _) G1.out G2.out G3.out ?_))
  go_loopw [11, 12] (fun v i wr => ∃ j : Nat, j ≤ 6 ∧ i = .int .i64 (j : Int) ∧ Hid (v = .int .i64 (num (H.take j) : Int)) ∧ Blk wr w7.heap.size 43 V ∧ Below w.heap.size w wr) (fun _ i _ => (6 - intOf i).toNat)
  case atStart =>
    refine ⟨0, by omega, rfl, Lib.hid rfl, ?_, ?_⟩
    · exact ((Blk.new w7 43 _).row V)
    · exact below_setRow (b6.alloc b6.size _) b6.size V
  case round =>
    clear hof hcv
    obtain ⟨j, hj, rfl, HV8, hB, bb⟩ := hrel
    obtain rfl := HV8.out
    by_cases hlt : j < 6
    · have hji : (j : Int) < 6 := by omega
      have hc : wr.cell? ⟨w7.heap.size, j, none⟩ = some (.int .u8 ((H[j]?.getD 0).toNat : Nat)) := hB.at_ (by rw [HV.out]; simp [bytesV, List.getElem?_map, List.getElem?_eq_getElem (show j < H.length by omega)])
      have hd := (H[j]?.getD 0).toNat_lt
      have hM := num_lt H j (by omega)
      have hM2 : num (H.take j) < 1099511627776 := Nat.lt_of_lt_of_le hM (Nat.pow_le_pow_right (n := 256) (by omega) (show j ≤ 5 by omega))
      have hor : (num (H.take j) : Int) * 256 + (((H[j]?.getD 0).toNat : Nat) : Int) = ((num (H.take j) * 256 + (H[j]?.getD 0).toNat : Nat) : Int) := by omega
      have hst := num_step H j (by omega)
      rw [← hst] at hor
      have hmul : (num (H.take j) : Int) * 256 ≤ 281474976710656 := by omega
      generalize (H[j]?.getD 0).toNat = d at *
      have HST := Lib.hid hst
      clear hst
      go_wp2_with fail
      go_roundw
      case rel => exact ⟨j + 1, by omega, by go_num, Lib.hid rfl, hB, bb⟩
      case measure => simp [intOf]; omega
    · obtain rfl : j = 6 := by omega
      have hwx := HW.out
      rw [← hwx]
      clear hwx hlt
      go_wp2_with fail
      refine (HR.out wr bb).mono ?_
      rintro E w8 ⟨rfl, b8⟩
      have b9 := below_next bb b8
      have hX0 : (0 : Int) ≤ (X : Int) := by omega
      have hX1 : (X : Int) < 281474976710656 := by omega
      go_wp2_with fail
      refine (drawLives_any w8 (hK.below (b9.mono (by omega))) (Nat.lt_of_lt_of_le (by omega) b9.size)).mono ?_
      rintro E w9 ⟨rfl, b10⟩
      go_wp2_with fail
      go_ret
      exact ⟨rfl, below_next (below_next d0 b9) b10⟩
end Go.Proofs.YtiajlglnefiemaaDoor
