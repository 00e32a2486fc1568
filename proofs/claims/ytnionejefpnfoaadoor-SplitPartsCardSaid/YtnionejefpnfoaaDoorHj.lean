/- draw.Word. Conditions: the round constants lie in their variable; the seed and the path are short. -/
import Derived.Test.YtnionejefpnfoaaDoorHh
import Derived.Test.YtnionejefpnfoaaDoorHi
import Derived.Test.YtnionejefpnfoaaDoorHp
namespace Go.Proofs.YtnionejefpnfoaaDoor
open Go.RowKit

/-- the number of a word's bytes -/
def num (l : List UInt8) : Nat := l.foldl (fun a b => a * 256 + b.toNat) 0
/-- the text of a list of bytes -/
def txt (l : List UInt8) : ByteArray := ⟨l.toArray⟩
/-- THE WORD -/
def wordN (s : ByteArray) (l : List Int) (t : Int) : Nat := num ((ofH 8 [s, txt (encInts (l ++ [t]))]).take 6)

theorem num_snoc (l : List UInt8) (b : UInt8) : num (l ++ [b]) = num l * 256 + b.toNat := by simp [num]
theorem num_step (H : List UInt8) (j : Nat) (hj : j < H.length) : num (H.take (j + 1)) = num (H.take j) * 256 + (H[j]?.getD 0).toNat := by
  rw [List.take_add_one, List.getElem?_eq_getElem hj, Option.toList_some, num_snoc]
  rfl
theorem num_lt (H : List UInt8) : ∀ j, j ≤ H.length → num (H.take j) < 256 ^ j
  | 0, _ => by simp [num]
  | j + 1, hj => by
    rw [num_step H j (by omega), Nat.pow_succ]
    have := num_lt H j (by omega)
    have := (H[j]?.getD 0).toNat_lt
    omega
theorem ofH_length (d : Int) (l : List ByteArray) : (ofH d l).length = 16 := by rw [ofH, List.length_take]; rw [show (sha (ofM d l)).length = 32 from outTo_length _ 32]; rfl
theorem wordN_lt (s : ByteArray) (l : List Int) (t : Int) : wordN s l t < 281474976710656 := num_lt _ 6 (by rw [ofH_length]; decide)
theorem reads_pair (w : World) (a b : ByteArray) : Reads (w.alloc (.cells #[.string a, .string b] 9)) (w.alloc (.cells #[.string a, .string b] 9)).heap.size 1 (some ⟨w.heap.size, 0, none⟩) 2 (strs [a, b]) := by
  have h := Blk.new w 9 #[.string a, .string b]
  refine ⟨rfl, fun _ => ⟨_, rfl, h.lt, fun j u hu => ?_⟩⟩
  rw [addr_add0]
  refine h.at_ ?_
  simpa [strs] using hu
set_option maxRecDepth 100000 in
set_option maxHeartbeats 4000000 in
theorem word_any (s : ByteArray) (A : Option Addr) (n c : Nat) (l : List Int) (t : Int) (w : World) (hl : Reads w w.heap.size 1 A n (ints l)) (hI : ∀ x ∈ l, I64 x) (ht : I64 t) (hn : n ≤ 10000) (hs : s.size ≤ 100000) (hK : Consts w) (h0 : 0 < w.heap.size) :
    Calls Tryd.prog 42 #[.string s, .slice A n c, .int .i64 t] w fun e W' => e = .returned (.int .i64 (wordN s l t : Int)) ∧ Below w.heap.size w W' := by
  obtain ⟨i0, hi, hz0, hz1, hz2⟩ := info_parts info_i64
  have el := hl.int_len
  subst el
  go_enter Tryd.func42, Tryd.ntmps42
  go_wp2_with fail
  refine (clone_any A l.length c l w hl (by omega)).mono ?_
  rintro e w1 ⟨v1, rfl, o1, b1⟩
  go_wp2_with (at_builtin; refine wpList_append_own _ rfl _ _ 22 rfl w.heap.size 3 i0 (.int .i64 0) 1 8 Tryd.underlying22 hi hz0 hz1 hz2 rfl (by decide) _ _ _ rfl (o1.alloc _) ⟨w1.heap.size, 0, none⟩ 1 1 [.int .i64 t] rfl rfl (cell_one_new _ _ _) (by simp [Value.oneCell']) (by unfold maxLen; omega) (by omega) (by have := b1.size; simp; omega) ?_; intro v2 w2 o2 g2 _)
  have b2 : Below w.heap.size w w2 := (b1.alloc b1.size _).grown g2 (by have := b1.size; simp; omega) (fun k e => (o1.lt k e).1)
  obtain ⟨A2, c2, rfl, hr2⟩ := own_reads1 o2
  have e2 : ints l ++ [Value.int .i64 t] = ints (l ++ [t]) := (ints_snoc l t).symm
  have l2 : l.length + 1 = (l ++ [t]).length := by simp
  rw [e2, l2] at hr2
  rw [l2]
  obtain ⟨L2, hL2⟩ : ∃ L2, L2 = l ++ [t] := ⟨_, rfl⟩
  have hI2 : ∀ x ∈ L2, I64 x := by
    intro x hx
    rw [hL2] at hx
    rcases List.mem_append.1 hx with h | h
    · exact hI x h
    · rw [List.mem_singleton.1 h]; exact ht
  have hn2 : L2.length ≤ 10001 := by rw [hL2]; simp; omega
  rw [← hL2] at hr2 ⊢
  have HL2 := Lib.hid hL2
  clear hL2 e2 l2 o2 o1 g2
  refine (wInts_any A2 L2.length c2 L2 w2 hr2 hI2 (by omega)).mono ?_
  rintro e w3 ⟨v3, rfl, o3, b3⟩
  have b4 := below_step b2 (Nat.le_refl _) b3
  have hcv := own_conv o3 (by unfold encInts; rw [List.length_append, encInt_length]; omega)
  go_wp2_with fail
  have hle : (encInts L2).length ≤ 100000 := by
    unfold encInts
    have h1 := cat_le L2 hI2
    have h2 := encInt_le (L2.length : Int) (I64.nat (by omega))
    rw [List.length_append]
    show (encInt (L2.length : Int)).length + (cat L2).length ≤ 100000
    omega
  have htx : (txt (encInts L2)).size = (encInts L2).length := by simp [txt, ByteArray.size]
  obtain ⟨H, hH⟩ : ∃ H, H = ofH 8 [s, txt (encInts L2)] := ⟨_, rfl⟩
  have hof := of_any 8 (some ⟨w3.heap.size, 0, none⟩) 2 2 [s, txt (encInts L2)] (w3.alloc (.cells #[.string s, .string (txt (encInts L2))] 9)) (reads_pair w3 s (txt (encInts L2))) (by rw [sizes, sizes, sizes, htx]; omega) (by omega) (by omega)
    (hK.below ((b4.alloc b4.size _).mono h0)) (by simp)
  rw [← hH] at hof
  have hHl : H.length = 16 := by rw [hH, ofH, List.length_take]; rw [show (sha (ofM 8 [s, txt (encInts L2)])).length = 32 from outTo_length _ 32]; rfl
  obtain ⟨V, hV⟩ : ∃ V, V = (bytesV H).toArray := ⟨_, rfl⟩
  rw [← hV] at hof
  have G1 : Hid ((Tryd.prog.info? 74).map (·.size) = some V.size) := Lib.hid (by rw [hV, List.size_toArray, bytesV_length, hHl]; exact info43)
  have G2 : Hid (Z16.size = V.size) := Lib.hid (by rw [hV]; show 16 = (bytesV H).toArray.size; rw [List.size_toArray, bytesV_length, hHl])
  have G3 : Hid (V.all (·.oneCell') = true) := Lib.hid (by rw [hV]; exact all_oneCell_toArray (bytesV_one _))
  have HV := Lib.hid hV
  have HH := Lib.hid hH
  clear hV hH
  refine hof.mono ?_
  rintro e w5 ⟨rfl, b5⟩
  have b6 := below_step (b4.alloc b4.size _) (Nat.le_refl _) b5
  go_wp2_with (first
    | (with_reducible refine wpList_store_row rfl 74 _ _ rfl w5.heap.size V rfl rfl 74 Z16 (heap_alloc_new w5 _) G1.out G2.out G3.out ?_))
  go_loopw [8, 23] (fun v i wr => ∃ j : Nat, j ≤ 6 ∧ i = .int .i64 (j : Int) ∧ Hid (v = .int .i64 (num (H.take j) : Int)) ∧ Blk wr w5.heap.size 74 V ∧ Below w.heap.size w wr) (fun _ i _ => (6 - intOf i).toNat)
  case atStart =>
    refine ⟨0, by omega, rfl, Lib.hid rfl, ?_, ?_⟩
    · exact ((Blk.new w5 74 _).row V)
    · exact below_setRow (b6.alloc b6.size _) b6.size V
  case round =>
    clear hof hcv
    obtain ⟨j, hj, rfl, HV8, hB, bb⟩ := hrel
    obtain rfl := HV8.out
    by_cases hlt : j < 6
    · have hji : (j : Int) < 6 := by omega
      have hc : wr.cell? ⟨w5.heap.size, j, none⟩ = some (.int .u8 ((H[j]?.getD 0).toNat : Nat)) := hB.at_ (by rw [HV.out]; simp [bytesV, List.getElem?_map, List.getElem?_eq_getElem (show j < H.length by omega)])
      have hd := (H[j]?.getD 0).toNat_lt
      have hM := num_lt H j (by omega)
      have hM2 : num (H.take j) < 1099511627776 := Nat.lt_of_lt_of_le hM (Nat.pow_le_pow_right (n := 256) (by omega) (show j ≤ 5 by omega))
      have hor := or_byte63 _ _ hM2 hd
      have hst := num_step H j (by omega)
      rw [← hst] at hor
      generalize (H[j]?.getD 0).toNat = d at *
      have HST := Lib.hid hst
      clear hst
      go_wp2_with fail
      go_roundw
      case rel => exact ⟨j + 1, by omega, by go_num, Lib.hid rfl, hB, bb⟩
      case measure => simp [intOf]; omega
    · obtain rfl : j = 6 := by omega
      go_wp2_with fail
      go_ret
      refine ⟨?_, bb⟩
      rw [wordN, ← HL2.out, ← HH.out]
      rfl
end Go.Proofs.YtnionejefpnfoaaDoor
