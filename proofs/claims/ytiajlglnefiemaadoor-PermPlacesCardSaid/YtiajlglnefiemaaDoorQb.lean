/- The reference's network: Mix and Unmix. Conditions: the round constants lie in their variables; the seed and the path are short. -/
import Derived.Test.YtiajlglnefiemaaDoorQa
import Derived.Test.YtiajlglnefiemaaDoorRe
set_option linter.unusedSimpArgs false
set_option linter.unusedVariables false
namespace Go.Proofs.YtiajlglnefiemaaDoor
open Go.RowKit

/-- what the reference's draws ask of the world -/
structure RNet (s : ByteArray) (A : Option Addr) (n : Nat) (l : List Int) (w : World) : Prop where
  reads : Reads w w.heap.size 1 A n (ints l)
  nums : ∀ x ∈ l, I64 x
  short : n ≤ 1000
  text : s.size ≤ 1000
  consts : RConsts w
  pos : 1 < w.heap.size
theorem RNet.below {s : ByteArray} {A : Option Addr} {n : Nat} {l : List Int} {w w' : World} (h : RNet s A n l w) (hb : Below w.heap.size w w') : RNet s A n l w' :=
  ⟨(h.reads.below hb).more hb.size, h.nums, h.short, h.text, h.consts.below (hb.mono h.pos), Nat.lt_of_lt_of_le h.pos hb.size⟩
set_option maxRecDepth 100000 in
set_option maxHeartbeats 2000000 in
theorem rMix_any {s : ByteArray} {A : Option Addr} {n c : Nat} {l : List Int} {w : World} (h : RNet s A n l w) (e x : Nat) (he : e ≤ 8) (hx : x < 2 ^ e * 2 ^ e) :
    Calls Tryd.prog 77 #[.string s, .slice A n c, .int .i64 ((2 ^ e : Nat) : Int), .int .i64 (x : Int)] w fun E W' => E = .returned (.int .i64 (mixF (rnd s l (2 ^ e)) (2 ^ e) x : Int)) ∧ Below w.heap.size w W' := by
  have hw := fun (W : World) (k r : Nat) (hW : RNet s A n l W) (hk : k ≤ 3) (hr : r < 65536) => rWord_any s A n c l (65536 * (k : Int) + (r : Int)) W hW.reads hW.nums ⟨by omega, by omega⟩ hW.short hW.text hW.consts hW.pos
  have hlt := fun k => fwd_lt (rnd_lt s l e) k (p := two (2 ^ e) x) (two_lt hx)
  have hB0 : 0 < 2 ^ e := Nat.two_pow_pos e
  have hB : 2 ^ e ≤ 256 := Nat.pow_le_pow_right (n := 2) (by omega) he
  have hxl : x < 65536 := Nat.lt_of_lt_of_le hx (Nat.mul_le_mul hB hB)
  obtain ⟨F, hF⟩ : ∃ F, F = fun k => fwd (rnd s l (2 ^ e)) k (two (2 ^ e) x) := ⟨_, rfl⟩
  have F0 : F 0 = two (2 ^ e) x := by rw [hF]; rfl
  have FS1 : ∀ k, (F (k + 1)).1 = (F k).2 := by rw [hF]; exact fun k => rfl
  have FS2 : ∀ k, (F (k + 1)).2 = (F k).1 ^^^ (wordN s l (65536 * (k : Int) + ((F k).2 : Int)) % 2 ^ e) := by rw [hF]; exact fun k => rfl
  have FR : mixF (rnd s l (2 ^ e)) (2 ^ e) x = one (2 ^ e) (F 4) := by rw [hF]; rfl
  have FL : ∀ k, (F k).1 < 2 ^ e ∧ (F k).2 < 2 ^ e := by rw [hF]; exact hlt
  have FX : one (2 ^ e) (F 4) < 65536 := Nat.lt_of_lt_of_le (one_lt (FL 4).1 (FL 4).2) (Nat.mul_le_mul hB hB)
  rw [FR]
  clear hlt hF FR hx
  generalize 2 ^ e = B at *
  have FA : (F 0).1 = x / B := by rw [F0]; rfl
  have FB : (F 0).2 = x % B := by rw [F0]; rfl
  have HFA := Lib.hid FA
  have HFB := Lib.hid FB
  have HS1 := Lib.hid FS1
  have HS2 := Lib.hid FS2
  have HFL := Lib.hid FL
  have HW := Lib.hid hw
  clear F0 FS1 FS2 FL hw FA FB
  have hBne : (B : Int) ≠ 0 := by omega
  have hBn : B ≠ 0 := by omega
  have htm : (x : Int).tmod (B : Int) = (x : Int) % (B : Int) := Int.tmod_eq_emod_of_nonneg (by omega)
  have htd : (x : Int).tdiv (B : Int) = (x : Int) / (B : Int) := Int.tdiv_eq_ediv_of_nonneg (by omega)
  have hwd : IntKind.i64.wrap ((x : Int) / (B : Int)) = (x : Int) / (B : Int) := by
    have h1 : (x : Int) / (B : Int) = ((x / B : Nat) : Int) := (Int.natCast_ediv x B).symm
    have h2 := Nat.div_le_self x B
    have h3 := Nat.zero_le (x / B)
    rw [h1]
    generalize x / B = q at *
    simp [IntKind.wrap, IntKind.signed, IntKind.bits]; omega
  go_enter Tryd.func77, Tryd.ntmps77
  go_wp2_with fail
  clear htm htd hwd
  go_loopw [9, 10, 11] (fun p q i wr => ∃ k : Nat, k ≤ 4 ∧ i = .int .i64 (k : Int) ∧ p = .int .i64 ((F k).1 : Int) ∧ q = .int .i64 ((F k).2 : Int) ∧ Below w.heap.size w wr) (fun _ _ i _ => (4 - intOf i).toNat)
  case atStart => exact ⟨0, by omega, rfl, by rw [HFA.out, Int.natCast_ediv], by rw [HFB.out, Int.natCast_emod], Below.refl _ _⟩
  case round =>
    obtain ⟨k, hk, rfl, rfl, rfl, hb⟩ := hrel
    by_cases hlt : k < 4
    · have hki : (k : Int) < 4 := by omega
      have l1 := (HFL.out k).1
      have l2 := (HFL.out k).2
      have h1 := HS1.out k
      have h2 := HS2.out k
      have hwk := HW.out wr k (F k).2 (h.below hb) (by omega) (by omega)
      have hwl := wordN_lt s l (65536 * (k : Int) + ((F k).2 : Int))
      generalize wordN s l (65536 * (k : Int) + ((F k).2 : Int)) = X at *
      have hxm : X % B < B := Nat.mod_lt _ hB0
      have hxor := fun W => rXor_any (F k).1 (X % B) W (by omega) (by omega)
      have hmm : (X : Int).tmod (B : Int) = ((X % B : Nat) : Int) := by rw [Int.tmod_eq_emod_of_nonneg (by omega)]; exact (Int.natCast_emod X B).symm
      have hmm2 : (X : Int) % (B : Int) = ((X % B : Nat) : Int) := (Int.natCast_emod X B).symm
      rw [← h2] at hxor
      generalize X % B = r at *
      have H1 := Lib.hid h1
      have HWK := Lib.hid hwk
      have HXOR := Lib.hid hxor
      clear h1 h2 hwk hxor
      go_wp2_with fail
      refine HWK.out.mono ?_
      rintro E w2 ⟨rfl, b2⟩
      have hb2 := hb.trans (b2.mono hb.size)
      go_wp2_with fail
      refine (HXOR.out w2).mono ?_
      rintro E w3 ⟨rfl, rfl⟩
      go_wp2_with fail
      have v1 : Value.int .i64 ((k : Int) + 1) = .int .i64 ((k + 1 : Nat) : Int) := by go_num
      go_roundw
      case rel => exact ⟨k + 1, by omega, v1, by rw [H1.out], rfl, hb2⟩
      case measure => simp [intOf]; omega
    · obtain rfl : k = 4 := by omega
      go_wp2_with fail
      rw [wrap_one FX]
      go_ret
      exact ⟨rfl, hb⟩
set_option maxRecDepth 100000 in
set_option maxHeartbeats 2000000 in
theorem rUnmix_any {s : ByteArray} {A : Option Addr} {n c : Nat} {l : List Int} {w : World} (h : RNet s A n l w) (e x : Nat) (he : e ≤ 8) (hx : x < 2 ^ e * 2 ^ e) :
    Calls Tryd.prog 53 #[.string s, .slice A n c, .int .i64 ((2 ^ e : Nat) : Int), .int .i64 (x : Int)] w fun E W' => E = .returned (.int .i64 (backF (rnd s l (2 ^ e)) (2 ^ e) x : Int)) ∧ Below w.heap.size w W' := by
  have hw := fun (W : World) (k r : Nat) (hW : RNet s A n l W) (hk : k ≤ 3) (hr : r < 65536) => rWord_any s A n c l (65536 * (k : Int) + (r : Int)) W hW.reads hW.nums ⟨by omega, by omega⟩ hW.short hW.text hW.consts hW.pos
  have hlt := fun k => rv_lt (rnd_lt s l e) k (p := two (2 ^ e) x) (two_lt hx)
  have hB0 : 0 < 2 ^ e := Nat.two_pow_pos e
  have hB : 2 ^ e ≤ 256 := Nat.pow_le_pow_right (n := 2) (by omega) he
  have hxl : x < 65536 := Nat.lt_of_lt_of_le hx (Nat.mul_le_mul hB hB)
  obtain ⟨F, hF⟩ : ∃ F, F = fun k => rv (rnd s l (2 ^ e)) k (two (2 ^ e) x) := ⟨_, rfl⟩
  have F0 : F 0 = two (2 ^ e) x := by rw [hF]; rfl
  have FS1 : ∀ k, (F (k + 1)).2 = (F k).1 := by rw [hF]; exact fun k => rfl
  have FS2 : ∀ k, (F (k + 1)).1 = (F k).2 ^^^ (wordN s l (65536 * ((3 - k : Nat) : Int) + ((F k).1 : Int)) % 2 ^ e) := by rw [hF]; exact fun k => rfl
  have FR : backF (rnd s l (2 ^ e)) (2 ^ e) x = one (2 ^ e) (F 4) := by rw [hF]; rfl
  have FL : ∀ k, (F k).1 < 2 ^ e ∧ (F k).2 < 2 ^ e := by rw [hF]; exact hlt
  have FX : one (2 ^ e) (F 4) < 65536 := Nat.lt_of_lt_of_le (one_lt (FL 4).1 (FL 4).2) (Nat.mul_le_mul hB hB)
  rw [FR]
  clear hlt hF FR hx
  generalize 2 ^ e = B at *
  have FA : (F 0).1 = x / B := by rw [F0]; rfl
  have FB : (F 0).2 = x % B := by rw [F0]; rfl
  have HFA := Lib.hid FA
  have HFB := Lib.hid FB
  have HS1 := Lib.hid FS1
  have HS2 := Lib.hid FS2
  have HFL := Lib.hid FL
  have HW := Lib.hid hw
  clear F0 FS1 FS2 FL hw FA FB
  have hBne : (B : Int) ≠ 0 := by omega
  have hBn : B ≠ 0 := by omega
  have htm : (x : Int).tmod (B : Int) = (x : Int) % (B : Int) := Int.tmod_eq_emod_of_nonneg (by omega)
  have htd : (x : Int).tdiv (B : Int) = (x : Int) / (B : Int) := Int.tdiv_eq_ediv_of_nonneg (by omega)
  have hwd : IntKind.i64.wrap ((x : Int) / (B : Int)) = (x : Int) / (B : Int) := by
    have h1 : (x : Int) / (B : Int) = ((x / B : Nat) : Int) := (Int.natCast_ediv x B).symm
    have h2 := Nat.div_le_self x B
    have h3 := Nat.zero_le (x / B)
    rw [h1]
    generalize x / B = q at *
    simp [IntKind.wrap, IntKind.signed, IntKind.bits]; omega
  go_enter Tryd.func53, Tryd.ntmps53
  go_wp2_with fail
  clear htm htd hwd
  go_loopw [9, 10, 11] (fun p q i wr => ∃ k : Nat, k ≤ 4 ∧ i = .int .i64 (3 - (k : Int)) ∧ p = .int .i64 ((F k).1 : Int) ∧ q = .int .i64 ((F k).2 : Int) ∧ Below w.heap.size w wr) (fun _ _ i _ => (1 + intOf i).toNat)
  case atStart => exact ⟨0, by omega, rfl, by rw [HFA.out, Int.natCast_ediv], by rw [HFB.out, Int.natCast_emod], Below.refl _ _⟩
  case round =>
    obtain ⟨k, hk, rfl, rfl, rfl, hb⟩ := hrel
    by_cases hlt : k < 4
    · have hki : (0 : Int) ≤ 3 - (k : Int) := by omega
      have hk3 : ((3 - k : Nat) : Int) = 3 - (k : Int) := by omega
      have l1 := (HFL.out k).1
      have l2 := (HFL.out k).2
      have h1 := HS1.out k
      have h2 := HS2.out k
      have hwk := HW.out wr (3 - k) (F k).1 (h.below hb) (by omega) (by omega)
      have hwl := wordN_lt s l (65536 * ((3 - k : Nat) : Int) + ((F k).1 : Int))
      generalize wordN s l (65536 * ((3 - k : Nat) : Int) + ((F k).1 : Int)) = X at *
      rw [hk3] at hwk
      clear hk3
      have hxm : X % B < B := Nat.mod_lt _ hB0
      have hxor := fun W => rXor_any (F k).2 (X % B) W (by omega) (by omega)
      have hmm : (X : Int).tmod (B : Int) = ((X % B : Nat) : Int) := by rw [Int.tmod_eq_emod_of_nonneg (by omega)]; exact (Int.natCast_emod X B).symm
      have hmm2 : (X : Int) % (B : Int) = ((X % B : Nat) : Int) := (Int.natCast_emod X B).symm
      rw [← h2] at hxor
      generalize X % B = r at *
      have H1 := Lib.hid h1
      have HWK := Lib.hid hwk
      have HXOR := Lib.hid hxor
      clear h1 h2 hwk hxor
      go_wp2_with fail
      refine HWK.out.mono ?_
      rintro E w2 ⟨rfl, b2⟩
      have hb2 := hb.trans (b2.mono hb.size)
      go_wp2_with fail
      refine (HXOR.out w2).mono ?_
      rintro E w3 ⟨rfl, rfl⟩
      go_wp2_with fail
      have v1 : Value.int .i64 (3 - (k : Int) - 1) = .int .i64 (3 - ((k + 1 : Nat) : Int)) := by congr 1; omega
      go_roundw
      case rel => exact ⟨k + 1, by omega, v1, rfl, by rw [H1.out], hb2⟩
      case measure => simp [intOf]; omega
    · obtain rfl : k = 4 := by omega
      go_wp2_with fail
      rw [wrap_one FX]
      go_ret
      exact ⟨rfl, hb⟩
end Go.Proofs.YtiajlglnefiemaaDoor
