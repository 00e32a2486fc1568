/- The walk of WireDecodeMatchesSpec: the law returns true. Conditions: the bytes are read in memory, of a length that a slice can have. -/
import Derived.Test.YtbofbihpmhkppaaWv
namespace Go.Proofs.Ytbofbihpmhkppaa
open Go.RowKit

/-- a further call, behind others -/
theorem below_step {B : Nat} {w w1 w2 : World} (h : Below B w w1) (hB : B ≤ w.heap.size) (k : Below w1.heap.size w1 w2) : Below B w w2 := h.trans (k.mono (Nat.le_trans hB h.size))
theorem below_draw {B : Nat} {w w1 w2 : World} (h : Below B w w1) (k : Drawn w1 w2) : Below B w w2 := h.trans (k.below B)

set_option maxRecDepth 100000 in
set_option maxHeartbeats 4000000 in
theorem wireDecode_any (A : Option Addr) (m c : Nat) (l : List UInt8) (w : World) (hmc : m ≤ c) (hm : m ≤ 140737488351232) (hl : Reads w w.heap.size 1 A m (bytesV l)) :
    Calls Try.prog 7 #[.slice A m c] w fun e W' => e = .returned (.bool true) ∧ Below w.heap.size w W' := by
  by_cases hbig : m > 2000
  · have hb2 : (m : Int) > 2000 := by omega
    go_enter Try.func7, Try.ntmps7
    go_wp2_with fail
    refine (sanity_any w).mono ?_
    rintro e w1 ⟨rfl, hb⟩
    go_wp2_with fail
    go_ret
    exact ⟨rfl, hb⟩
  · have hb2 : ¬ (m : Int) > 2000 := by omega
    have el := hl.byte_len
    have hm2 : m ≤ 2000 := by omega
    have HL := Lib.hid el
    clear el
    obtain ⟨x1, y1, z1, e1⟩ := retI_form (decI l)
    obtain ⟨x2, y2, z2, e2⟩ := retB_form (decB l)
    have E1 := Lib.hid e1
    have E2 := Lib.hid e2
    clear e1 e2
    have s2 : (!x2.toList == x2.toList) = false := by simp
    go_enter Try.func7, Try.ntmps7
    go_wp2_with fail
    refine (wGetInt_any A m c l w hl (by omega) hmc).mono ?_
    rintro e w1 ⟨rfl, hd⟩
    have b1 := hd.below w.heap.size
    clear hd
    rw [E1.out]
    go_wp2_with fail
    refine (rGetInt_any A m c l w1 ((hl.below b1).more b1.size) (by omega) hmc).mono ?_
    rintro e w2 ⟨rfl, hb⟩
    have b2 := below_step b1 (Nat.le_refl _) hb
    clear hb b1
    rw [E1.out]
    go_wp2_with fail
    refine (wGetBytes_any A m c l w2 ((hl.below b2).more b2.size) (by omega) hmc).mono ?_
    rintro e w3 ⟨rfl, hd⟩
    have b3 := below_draw b2 hd
    clear hd b2
    rw [E2.out]
    go_wp2_with fail
    refine (rGetBytes_any A m c l w3 ((hl.below b3).more b3.size) (by omega) hmc).mono ?_
    rintro e w4 ⟨rfl, hb⟩
    have b4 := below_step b3 (Nat.le_refl _) hb
    clear hb b3
    rw [E2.out]
    go_wp2_with fail
    refine (wGetInts_any A m c l w4 ((hl.below b4).more b4.size) (by omega) hmc).mono ?_
    rintro e w5 hG
    obtain ⟨A3, c3, r3, z3, q3, rfl, -, R3, f, g, hb⟩ := got_open hG
    have F3 := Lib.hid f
    have G3 := Lib.hid g
    have n3 := got_len f g
    have N3 : r3.length ≤ 2000 := by have := HL.out; omega
    have b5 := below_step b4 (Nat.le_refl _) hb
    clear hb hG f g n3 b4
    go_wp2_with fail
    refine (rGetInts_any A m c l w5 ((hl.below b5).more b5.size) (by omega) hmc).mono ?_
    rintro e w6 hG
    obtain ⟨A3', c3', r3', z3', q3', rfl, -, R3', f, g, hb⟩ := got_open hG
    obtain ⟨rfl, rfl, rfl⟩ := got_same F3.out G3.out f g
    have R3 := R3.below hb
    have R3 := R3.more hb.size
    have b6 := below_step b5 (Nat.le_refl _) hb
    clear hb hG f g b5 F3 G3
    go_wp2_with fail
    refine (sameInts_any A3 A3' _ _ c3 c3' r3' r3' _ w6 R3 R3' (by omega) (by omega)).mono ?_
    rintro e w7 ⟨rfl, hd⟩
    rw [decide_eq_true rfl]
    have b7 := below_draw b6 hd
    clear hd b6 R3 R3'
    go_wp2_with fail
    refine (wGetStrings_any A m c l w7 ((hl.below b7).more b7.size) (by omega) hmc).mono ?_
    rintro e w8 hG
    obtain ⟨A4, c4, r4, z4, q4, rfl, -, R4, f, g, hb⟩ := got_open hG
    have F4 := Lib.hid f
    have G4 := Lib.hid g
    have n4 := got_len f g
    have N4 : r4.length ≤ 2000 := by have := HL.out; omega
    have b8 := below_step b7 (Nat.le_refl _) hb
    clear hb hG f g n4 b7
    go_wp2_with fail
    refine (rGetStrings_any A m c l w8 ((hl.below b8).more b8.size) (by omega) hmc).mono ?_
    rintro e w9 hG
    obtain ⟨A4', c4', r4', z4', q4', rfl, -, R4', f, g, hb⟩ := got_open hG
    obtain ⟨rfl, rfl, rfl⟩ := got_same F4.out G4.out f g
    have R4 := R4.below hb
    have R4 := R4.more hb.size
    have b9 := below_step b8 (Nat.le_refl _) hb
    clear hb hG f g b8 F4 G4
    go_wp2_with fail
    refine (sameTexts_any A4 A4' _ _ c4 c4' r4' r4' _ w9 R4 R4' (by omega) (by omega)).mono ?_
    rintro e w10 ⟨rfl, hd⟩
    rw [decide_eq_true rfl]
    have b10 := below_draw b9 hd
    clear hd b9 R4 R4'
    go_wp2_with fail
    refine (wGetDigests_any A m c l w10 ((hl.below b10).more b10.size) (by omega) hmc).mono ?_
    rintro e w11 hG
    obtain ⟨A5, c5, n5, z5, q5, r5, rfl, -, R5, f, g, hb⟩ := gotD_open hG
    have F5 := Lib.hid f
    have G5 := Lib.hid g
    have l5 := gotD_len f g
    have N5 : n5 ≤ 2000 := by have := HL.out; omega
    have b11 := below_step b10 (Nat.le_refl _) hb
    clear hb hG f g l5 b10
    go_wp2_with fail
    refine (rGetDigests_any A m c l w11 ((hl.below b11).more b11.size) (by omega) hmc).mono ?_
    rintro e w12 hG
    obtain ⟨A5', c5', n5', z5', q5', r5', rfl, -, R5', f, g, hb⟩ := gotD_open hG
    obtain ⟨rfl, rfl, rfl, rfl⟩ := gotD_same F5.out G5.out f g
    have R5 := R5.below hb
    have R5 := R5.more hb.size
    have b12 := below_step b11 (Nat.le_refl _) hb
    clear hb hG f g b11 F5 G5
    go_wp2_with fail
    refine (sanity_any w12).mono ?_
    rintro e w13 ⟨rfl, hb⟩
    have b13 := below_step b12 (Nat.le_refl _) hb
    have R5 := R5.below hb
    have R5' := R5'.below hb
    clear hb b12
    go_wp2_with fail
    refine (sameDigs_any A5 A5' _ c5 c5' r5' r5' _ w13 R5 R5' (by omega)).mono ?_
    rintro e w14 ⟨rfl, hd⟩
    rw [decide_eq_true rfl]
    have b14 := below_draw b13 hd
    clear hd b13 R5 R5'
    go_wp2_with fail
    go_ret
    exact ⟨rfl, b14⟩
end Go.Proofs.Ytbofbihpmhkppaa
