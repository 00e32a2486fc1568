/- The reference's SHA-256: rotations, padding, words. No condition but short messages. -/
import Derived.Test.YtiajlglnefiemaaDoorHg
import Derived.BigQuiet
set_option linter.unusedSimpArgs false
set_option linter.unusedVariables false
namespace Go.Proofs.YtiajlglnefiemaaDoor
open Go.RowKit

set_option maxRecDepth 100000 in
set_option maxHeartbeats 1000000 in
theorem rrot_any (x : UInt32) (k : Nat) (w : World) (hk : 1 ≤ k) (hk2 : k < 32) : Calls Tryd.prog 112 #[.int .u32 (x.toNat : Int), .int .i64 (k : Int)] w fun e w' => e = .returned (w32 (rotr x k)) ∧ ∃ n, w' = w.drewN n := by
  have hx := u32_lt x
  have h1 : (0 : Int) ≤ (k : Int) := by omega
  have h2 : (0 : Int) ≤ 32 - (k : Int) := by omega
  have h3 := w_shl x (32 - k) (by omega)
  have h4 := w_shr x k hk2
  go_enter Tryd.func112, Tryd.ntmps112
  go_wp2_with fail
  go_quiet (fail)
  go_wp2_with fail
  go_ret
  refine ⟨ret_w32 ?_, nq, rfl⟩
  rw [Int.natCast_pow] at h3 h4
  have e2 : ((2 : Nat) : Int) = 2 := rfl
  rw [e2] at h3 h4
  rw [h3, h4, w_or]
  unfold rotr ow
  rw [UInt32.or_comm]
def rIn (M : List UInt8) (A : Option Addr) (n : Nat) (w : World) : Prop := Reads w w.heap.size 1 A n (bytesV M)
set_option maxRecDepth 100000 in
set_option maxHeartbeats 4000000 in
theorem rPadded_any (A : Option Addr) (n c : Nat) (m : List UInt8) (w : World) (hl : Reads w w.heap.size 1 A n (bytesV m)) (hn : n ≤ 1000000) (hnc : n ≤ c) :
    Calls Tryd.prog 110 #[.slice A n c] w fun e W' => ∃ v, e = .returned v ∧ W'.ownsRow w.heap.size 5 1 v (m ++ padB m.length).length (bytesV (m ++ padB m.length)) ∧ Below w.heap.size w W' := by
  obtain ⟨i0, hi, hz0, hz1, hz2⟩ := info_parts info_u8
  have el := hl.byte_len
  subst el
  have zl := zeros_lt m.length
  go_enter Tryd.func110, Tryd.ntmps110
  go_wp2_with (first
    | (at_builtin; refine wpList_append_reads _ rfl _ _ 45 rfl w.heap.size 5 i0 (.int .u8 0) 1 1 Tryd.underlying45 hi hz0 hz1 hz2 rfl (by decide) _ _ _ rfl (own_new w 5 #[] _ (Nat.le_refl _) (by unfold maxLen; simp)) _ A m.length c (bytesV m) rfl (hl.alloc (Nat.le_refl _) _) (bytesV_one _) (by unfold maxLen; simp; omega) (by simp; omega) (by simp) ?_; intro v1 w1 hown1 hgrow1; have hb1 : Below w.heap.size w w1 := ((Below.refl _ w).alloc (Nat.le_refl _) _).grown hgrow1 (by simp) (fun k e => by have e2 : some w.heap.size = some k := e; injection e2 with e2; omega))
    | (at_builtin; refine wpList_append_own _ rfl _ _ 45 rfl w.heap.size 5 i0 (.int .u8 0) 1 1 Tryd.underlying45 hi hz0 hz1 hz2 rfl (by decide) _ _ _ rfl (hown1.alloc _) ⟨w1.heap.size, 0, none⟩ 1 1 [.int .u8 128] rfl rfl (cell_one_new _ _ _) (by simp [Value.oneCell']) (by unfold maxLen; simp; omega) (by simp; omega) (by have := hb1.size; simp; omega) ?_; intro v2 w2 hown2 hgrow2 _))
  have hb2 : Below w.heap.size w w2 := (hb1.alloc hb1.size _).grown hgrow2 (by have := hb1.size; simp; omega) (fun k e => (hown1.lt k e).1)
  have hown3 : w2.ownsRow w.heap.size 5 1 v2 (m.length + 1 + 0) (bytesV (m ++ 128 :: List.replicate 0 (0 : UInt8))) := by simpa [bytesV, Nat.add_comm] using hown2
  clear hown1 hgrow1 hb1 hown2 hgrow2
  go_loopw [3] (fun v wr => ∃ j : Nat, j ≤ zeros m.length ∧ wr.ownsRow w.heap.size 5 1 v (m.length + 1 + j) (bytesV (m ++ 128 :: List.replicate j (0 : UInt8))) ∧ Below w.heap.size w wr) (fun v _ => m.length + zeros m.length + 2 - sliceLen v)
  case atStart => exact ⟨0, by omega, hown3, hb2⟩
  case round =>
    clear hown3 hb2
    obtain ⟨j, hj, ho, hb⟩ := hrel
    have hL : ∀ W, _ := own_len ho
    have hsl := own_sliceLen ho
    by_cases hlt : j < zeros m.length
    · have t1 : (((m.length + 1 + j : Nat) : Int)) % 64 ≠ 56 := by have := zeros_min m.length j hlt; omega
      go_wp2_with (first
        | (at_builtin; refine wpList_append_own _ rfl _ _ 45 rfl w.heap.size 5 i0 (.int .u8 0) 1 1 Tryd.underlying45 hi hz0 hz1 hz2 rfl (by decide) _ _ _ rfl (ho.alloc _) ⟨wr.heap.size, 0, none⟩ 1 1 [.int .u8 0] rfl rfl (cell_one_new _ _ _) (by simp [Value.oneCell']) (by unfold maxLen; omega) (by omega) (by have := hb.size; simp; omega) ?_; intro v' w' hown' hgrow' _; have hb' : Below w.heap.size w w' := (hb.alloc hb.size _).grown hgrow' (by have := hb.size; simp; omega) (fun k e => (ho.lt k e).1)))
      go_roundw
      case rel => exact ⟨j + 1, by omega, by
        have e : bytesV (m ++ 128 :: List.replicate (j + 1) (0 : UInt8)) = bytesV (m ++ 128 :: List.replicate j (0 : UInt8)) ++ [.int .u8 0] := by
          rw [List.replicate_succ', ← List.cons_append, ← List.append_assoc, bytesV_append]; rfl
        rw [e]; exact hown', hb'⟩
      case measure => have := own_sliceLen hown'; omega
    · have hjz : j = zeros m.length := by omega
      have t1 : ((m.length : Int) + 1 + (zeros m.length : Int)) % 64 = 56 := by have := zeros_at m.length; omega
      have t2 : (((m.length : Int) + 1 + (zeros m.length : Int)) % 64 != 56) = false := by rw [t1]; rfl
      clear hlt hsl t1
      subst hjz
      go_wp2_with fail
      clear t2 hL hj
      obtain ⟨PZ, hPZ⟩ : ∃ PZ : List UInt8, PZ = m ++ 128 :: List.replicate (zeros m.length) (0 : UInt8) := ⟨_, rfl⟩
      have hPl : PZ.length = m.length + 1 + zeros m.length := by rw [hPZ]; simp; omega
      rw [← hPZ] at ho
      rw [← hPl] at ho
      have HPZ := Lib.hid hPZ
      have HPL := Lib.hid hPl
      clear hPZ hPl
      go_loopw [3, 5] (fun v i wr => ∃ j : Nat, j ≤ 8 ∧ i = .int .i64 (j : Int) ∧ wr.ownsRow w.heap.size 5 1 v (PZ.length + j) (bytesV (PZ ++ lenB m.length j)) ∧ Below w.heap.size w wr) (fun _ i _ => (8 - intOf i).toNat)
      case atStart => exact ⟨0, by omega, rfl, by simpa [lenB] using ho, hb⟩
      case round =>
        clear ho hb
        obtain ⟨j, hj, rfl, ho, hb⟩ := hrel
        by_cases hlt : j < 8
        · have hji : (j : Int) < 8 := by omega
          have hj0 : 0 ≤ 56 - 8 * (j : Int) := by omega
          have hd : 8 * (m.length : Int) / 2 ^ (56 - 8 * j) % 256 = ((8 * m.length / 256 ^ (7 - j) % 256 : Nat) : Int) := by
            rw [show 56 - 8 * j = 8 * (7 - j) by omega, pow_256]; simp
          have HS := Lib.hid (lenB_succ m.length j)
          have hlen : (m.length : Int) ≤ 1000000 := by omega
          go_wp2_with (first
            | (at_builtin; refine wpList_append_own _ rfl _ _ 45 rfl w.heap.size 5 i0 (.int .u8 0) 1 1 Tryd.underlying45 hi hz0 hz1 hz2 rfl (by decide) _ _ _ rfl (ho.alloc _) ⟨wr.heap.size, 0, none⟩ 1 1 [.int .u8 ((8 * m.length / 256 ^ (7 - j) % 256 : Nat) : Int)] rfl rfl (cell_one_new _ _ _) (by simp [Value.oneCell']) (by have := HPL.out; unfold maxLen; omega) (by have := HPL.out; omega) (by have := hb.size; simp; omega) ?_; intro v' w' hown' hgrow' _; have hb' : Below w.heap.size w w' := (hb.alloc hb.size _).grown hgrow' (by have := hb.size; simp; omega) (fun k e => (ho.lt k e).1)))
          have e : bytesV (PZ ++ lenB m.length (j + 1)) = bytesV (PZ ++ lenB m.length j) ++ [.int .u8 ((8 * m.length / 256 ^ (7 - j) % 256 : Nat) : Int)] := by
            rw [HS.out, ← List.append_assoc, bytesV_append]
            congr 1
            rw [bytesV_cons, byt_toNat (Nat.mod_lt _ (by omega))]
            rfl
          rw [← e] at hown'
          have v1 : Value.int .i64 ((j : Int) + 1) = .int .i64 ((j + 1 : Nat) : Int) := by go_num
          clear hd hj0 hlen
          go_roundw
          case rel => first | exact ⟨j + 1, by omega, v1, hown', hb'⟩ | ((repeat apply Exists.intro); exact ⟨⟨j + 1, by omega, v1, hown', hb'⟩, rfl⟩)
          case measure => simp [intOf]; omega
        · obtain rfl : j = 8 := by omega
          go_wp2_with fail
          go_ret
          have ep : PZ ++ lenB m.length 8 = m ++ padB m.length := by rw [HPZ.out, padB]; simp
          have el : PZ.length + 8 = (m ++ padB m.length).length := by rw [← ep, List.length_append, lenB_length]
          rw [ep, el] at ho
          exact ⟨_, rfl, ho, hb⟩
end Go.Proofs.YtiajlglnefiemaaDoor
