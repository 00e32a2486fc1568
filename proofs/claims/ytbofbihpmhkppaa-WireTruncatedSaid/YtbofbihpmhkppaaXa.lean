/- The walk of WireListRoundTrip: the law returns true. Conditions: the string, the lists and the bytes are read in memory, of sizes that the lemma names. -/
import Derived.Test.YtbofbihpmhkppaaWz
namespace Go.Proofs.Ytbofbihpmhkppaa
open Go.RowKit
set_option linter.unusedVariables false

/-- a row that holds something: where it lies -/
theorem made_row1 {w w' : World} {v : Value} {E : List UInt8} (h : w'.ownsRow w.heap.size 5 1 v E.length (bytesV E)) (hE : 1 ≤ E.length) : ∃ g c, v = .slice (some ⟨g, 0, none⟩) E.length c ∧ E.length ≤ c ∧ Reads w' w'.heap.size 1 (some ⟨g, 0, none⟩) E.length (bytesV E) := by
  obtain ⟨g, c, rfl, -, -⟩ := h.form (by omega)
  refine ⟨g, c, rfl, ?_, Reads.of_own h⟩
  obtain ⟨_, _, e, h, -, -⟩ := own_slice h
  injection e with _ _ e3
  omega
theorem enc_pos (n : Int) (t : List UInt8) : 1 ≤ (encInt n ++ t).length := by rw [List.length_append, encInt_length]; omega

set_option maxRecDepth 100000 in
set_option maxHeartbeats 8000000 in
theorem wireListRound_any (s : ByteArray) (A2 : Option Addr) (n2 c2 : Nat) (l2 : List Int) (A3 : Option Addr) (n3 c3 : Nat) (l3 : List ByteArray) (A4 : Option Addr) (n4 c4 : Nat) (l4 : List UInt8) (A5 : Option Addr) (n5 c5 : Nat) (l5 : List UInt8) (w : World)
    (hs : s.size ≤ 140737488351232) (hc2 : n2 ≤ c2) (hm2 : n2 ≤ 140737488351232) (h2 : Reads w w.heap.size 1 A2 n2 (ints l2)) (hI : ∀ x ∈ l2, I64 x)
    (hc3 : n3 ≤ c3) (hm3 : n3 ≤ 140737488351232) (h3 : Reads w w.heap.size 1 A3 n3 (strs l3)) (hz : sizes l3 ≤ 1048576)
    (hc4 : n4 ≤ c4) (hm4 : n4 ≤ 140737488351232) (h4 : Reads w w.heap.size 16 A4 n4 (bytesV l4)) (hc5 : n5 ≤ c5) (hm5 : n5 ≤ 140737488351232) (h5 : Reads w w.heap.size 1 A5 n5 (bytesV l5)) :
    Calls Try.prog 11 #[.string s, .slice A2 n2 c2, .slice A3 n3 c3, .slice A4 n4 c4, .slice A5 n5 c5] w fun e W' => e = .returned (.bool true) ∧ Below w.heap.size w W' := by
  by_cases hbig : s.size + n2 + n4 + n5 > 2000
  · have hb2 : (s.size : Int) + (n2 : Int) + (n4 : Int) + (n5 : Int) > 2000 := by omega
    go_enter Try.func11, Try.ntmps11
    go_wp2_with fail
    refine (sanity_any w).mono ?_
    rintro e w1 ⟨rfl, hb⟩
    go_wp2_with fail
    go_ret
    exact ⟨rfl, hb⟩
  · have hb2 : ¬ (s.size : Int) + (n2 : Int) + (n4 : Int) + (n5 : Int) > 2000 := by omega
    by_cases hf : sizes l3 ≤ 2000
    · obtain ⟨i0, hi, hz0, hz1, hz2⟩ := info_parts info_u8
      have el2 := h2.int_len
      have el3 := h3.str_len
      have el4 : l4.length = n4 * 16 := by have := h4.1; rw [bytesV_length] at this; exact this
      have sl3 := sizes_len l3
      have L2 := encInts_le hI (by omega)
      have L3 := sizes_cat hf
      have L4 := encDigs_le el4 (by omega)
      have L1 := encBytes_le s (by omega)
      have D1 := decB_round s.data.toList l5 (by rw [size_list]; omega)
      have D2 := ints_round l2 l5 (by omega) hI
      have D3 := strs_round l3 l5 (by omega)
      have D4 := decD_round n4 l4 l5 (by omega) el4
      have P1 := encBytes_pos s.data.toList
      have P2 : 1 ≤ (encInts l2).length := enc_pos _ _
      have P3 : 1 ≤ (encStrs l3).length := enc_pos _ _
      have P4 : 1 ≤ (encDigs n4 l4).length := enc_pos _ _
      have N3 : n3 ≤ 2000 := by omega
      have EL2 := Lib.hid el2
      have EL3 := Lib.hid el3
      clear el2 el3 el4
      obtain ⟨E1, e1⟩ : ∃ E, E = encBytes s.data.toList := ⟨_, rfl⟩
      obtain ⟨E2, e2⟩ : ∃ E, E = encInts l2 := ⟨_, rfl⟩
      obtain ⟨E3, e3⟩ : ∃ E, E = encStrs l3 := ⟨_, rfl⟩
      obtain ⟨E4, e4⟩ : ∃ E, E = encDigs n4 l4 := ⟨_, rfl⟩
      rw [← e1] at L1 D1 P1; rw [← e2] at L2 D2 P2; rw [← e3] at L3 D3 P3; rw [← e4] at L4 D4 P4
      have H1 := Lib.hid e1
      have H2 := Lib.hid e2
      have H3 := Lib.hid e3
      have H4 := Lib.hid e4
      have HD1 := Lib.hid D1
      have HD2 := Lib.hid D2
      have HD3 := Lib.hid D3
      have HD4 := Lib.hid D4
      clear e1 e2 e3 e4 D1 D2 D3 D4
      go_enter Try.func11, Try.ntmps11
      go_wp2_with fail
      refine (few_any A3 n3 c3 _ l3 w h3 (by omega)).mono ?_
      rintro e w1 ⟨rfl, hd⟩
      rw [decide_eq_true hf]
      have b1 := hd.below w.heap.size
      clear hd
      go_wp2_with fail
      refine (wBytes_any s w1 (by omega)).mono ?_
      rintro e w2 ⟨v, rfl, hown, hb⟩
      rw [← H1.out] at hown
      obtain ⟨g1, k1, rfl, C1, R1⟩ := made_row1 hown P1
      have b2 := below_step b1 (Nat.le_refl _) hb
      clear hb hown
      go_wp2_with fail
      refine (wInts_any A2 n2 c2 l2 w2 (h2.below b2 |>.more b2.size) hI (by have := EL2.out; omega)).mono ?_
      rintro e w3 ⟨v, rfl, hown, hb⟩
      rw [← H2.out] at hown
      obtain ⟨g2, k2, rfl, C2, R2⟩ := made_row1 hown P2
      have b3 := below_step b2 (Nat.le_refl _) hb
      have R1 := R1.below hb
      have R1 := R1.more hb.size
      clear hb hown
      go_wp2_with fail
      refine (wDigs_any A4 n4 c4 l4 w3 (h4.below b3 |>.more b3.size) (by omega)).mono ?_
      rintro e w4 ⟨v, rfl, hown, hb⟩
      rw [← H4.out] at hown
      obtain ⟨g4, k4, rfl, C4, R4⟩ := made_row1 hown P4
      have b4 := below_step b3 (Nat.le_refl _) hb
      have R1 := R1.below hb
      have R1 := R1.more hb.size
      have R2 := R2.below hb
      have R2 := R2.more hb.size
      clear hb hown
      go_wp2_with fail
      refine (wStrs_any A3 n3 c3 l3 w4 (h3.below b4 |>.more b4.size) (by omega)).mono ?_
      rintro e w5 ⟨v, rfl, hown, hb⟩
      rw [← H3.out] at hown
      obtain ⟨g3, k3, rfl, C3, R3⟩ := made_row1 hown P3
      have b5 := below_step b4 (Nat.le_refl _) hb
      have R1 := R1.below hb
      have R1 := R1.more hb.size
      have R2 := R2.below hb
      have R2 := R2.more hb.size
      have R4 := R4.below hb
      have R4 := R4.more hb.size
      clear hb hown
      go_wp2_with (at_builtin; refine wpList_append_clip rfl _ _ 46 rfl 5 i0 (.int .u8 0) 1 1 Try.underlying46 hi hz0 hz1 hz2 rfl (by decide) ⟨g1, 0, none⟩ E1.length (bytesV E1) rfl R1 A5 n5 c5 (bytesV l5) rfl (h5.below b5 |>.more b5.size) (by unfold maxLen; omega) (by omega) ?_; intro A'1 c'1 w6 C'1 R'1 hb)
      have b6 := below_step b5 (Nat.le_refl _) hb
      have R2 := R2.below hb
      have R2 := R2.more hb.size
      have R4 := R4.below hb
      have R4 := R4.more hb.size
      have R3 := R3.below hb
      have R3 := R3.more hb.size
      rw [← bytesV_append] at R'1
      clear hb
      refine (wGetBytes_any A'1 _ c'1 (E1 ++ l5) w6 R'1 (by omega) C'1).mono ?_
      rintro e w7 ⟨rfl, hd⟩
      rw [HD1.out]
      simp only [retB]
      rw [ba_eta]
      have hb := hd.below w6.heap.size
      have b7 := below_step b6 (Nat.le_refl _) hb
      have R2 := R2.below hb
      have R2 := R2.more hb.size
      have R4 := R4.below hb
      have R4 := R4.more hb.size
      have R3 := R3.below hb
      have R3 := R3.more hb.size
      clear hb R'1
      go_wp2_with (at_builtin; refine wpList_append_clip rfl _ _ 46 rfl 5 i0 (.int .u8 0) 1 1 Try.underlying46 hi hz0 hz1 hz2 rfl (by decide) ⟨g2, 0, none⟩ E2.length (bytesV E2) rfl R2 A5 n5 c5 (bytesV l5) rfl (h5.below b7 |>.more b7.size) (by unfold maxLen; omega) (by omega) ?_; intro A'2 c'2 w8 C'2 R'2 hb)
      have b8 := below_step b7 (Nat.le_refl _) hb
      have R4 := R4.below hb
      have R4 := R4.more hb.size
      have R3 := R3.below hb
      have R3 := R3.more hb.size
      rw [← bytesV_append] at R'2
      clear hb
      refine (wGetInts_any A'2 _ c'2 (E2 ++ l5) w8 R'2 (by omega) C'2).mono ?_
      rintro e w9 hG
      obtain ⟨a2, x2, rfl, -, S2, hb⟩ := got_ok hG HD2.out
      rw [EL2.out] at S2 ⊢
      clear hG
      have b9 := below_step b8 (Nat.le_refl _) hb
      have R4 := R4.below hb
      have R4 := R4.more hb.size
      have R3 := R3.below hb
      have R3 := R3.more hb.size
      clear hb R'2
      go_wp2_with (at_builtin; refine wpList_append_clip rfl _ _ 46 rfl 5 i0 (.int .u8 0) 1 1 Try.underlying46 hi hz0 hz1 hz2 rfl (by decide) ⟨g4, 0, none⟩ E4.length (bytesV E4) rfl R4 A5 n5 c5 (bytesV l5) rfl (h5.below b9 |>.more b9.size) (by unfold maxLen; omega) (by omega) ?_; intro A'4 c'4 w10 C'4 R'4 hb)
      have b10 := below_step b9 (Nat.le_refl _) hb
      have R3 := R3.below hb
      have R3 := R3.more hb.size
      have S2 := S2.below hb
      have S2 := S2.more hb.size
      rw [← bytesV_append] at R'4
      clear hb
      refine (wGetDigests_any A'4 _ c'4 (E4 ++ l5) w10 R'4 (by omega) C'4).mono ?_
      rintro e w11 hG
      obtain ⟨a4, x4, rfl, -, S4, hb⟩ := gotD_ok hG HD4.out
      clear hG
      have b11 := below_step b10 (Nat.le_refl _) hb
      have R3 := R3.below hb
      have R3 := R3.more hb.size
      have S2 := S2.below hb
      have S2 := S2.more hb.size
      clear hb R'4
      go_wp2_with (at_builtin; refine wpList_append_clip rfl _ _ 46 rfl 5 i0 (.int .u8 0) 1 1 Try.underlying46 hi hz0 hz1 hz2 rfl (by decide) ⟨g3, 0, none⟩ E3.length (bytesV E3) rfl R3 A5 n5 c5 (bytesV l5) rfl (h5.below b11 |>.more b11.size) (by unfold maxLen; omega) (by omega) ?_; intro A'3 c'3 w12 C'3 R'3 hb)
      have b12 := below_step b11 (Nat.le_refl _) hb
      have S2 := S2.below hb
      have S2 := S2.more hb.size
      have S4 := S4.below hb
      have S4 := S4.more hb.size
      rw [← bytesV_append] at R'3
      clear hb
      refine (wGetStrings_any A'3 _ c'3 (E3 ++ l5) w12 R'3 (by omega) C'3).mono ?_
      rintro e w13 hG
      obtain ⟨a3, x3, rfl, -, S3, hb⟩ := got_ok hG HD3.out
      rw [EL3.out] at S3 ⊢
      clear hG
      have b13 := below_step b12 (Nat.le_refl _) hb
      have S2 := S2.below hb
      have S2 := S2.more hb.size
      have S4 := S4.below hb
      have S4 := S4.more hb.size
      clear hb R'3
      go_wp2_with fail
      refine (sanity_any w13).mono ?_
      rintro e w14 ⟨rfl, hb⟩
      have b14 := below_step b13 (Nat.le_refl _) hb
      have S2 := S2.below hb
      have S2 := S2.more hb.size
      have S4 := S4.below hb
      have S4 := S4.more hb.size
      have S3 := S3.below hb
      have S3 := S3.more hb.size
      clear hb
      have k5 : (s.toList == s.toList) = true := by simp
      go_wp2_with fail
      refine (sameTexts_any a3 A3 n3 n3 x3 c3 l3 l3 _ w14 S3 (h3.below b14 |>.more b14.size) (by omega) (by omega)).mono ?_
      rintro e w15 ⟨rfl, hd⟩
      rw [decide_eq_true rfl]
      have hb := hd.below w14.heap.size
      have b15 := below_step b14 (Nat.le_refl _) hb
      have S2 := S2.below hb
      have S2 := S2.more hb.size
      have S4 := S4.below hb
      have S4 := S4.more hb.size
      clear hb hd
      go_wp2_with fail
      refine (sameInts_any a2 A2 n2 n2 x2 c2 l2 l2 _ w15 S2 (h2.below b15 |>.more b15.size) (by omega) (by omega)).mono ?_
      rintro e w16 ⟨rfl, hd⟩
      rw [decide_eq_true rfl]
      have hb := hd.below w15.heap.size
      have b16 := below_step b15 (Nat.le_refl _) hb
      have S4 := S4.below hb
      have S4 := S4.more hb.size
      clear hb hd
      go_wp2_with fail
      refine (sameDigs_any a4 A4 n4 x4 c4 l4 l4 _ w16 S4 (h4.below b16 |>.more b16.size) (by omega)).mono ?_
      rintro e w17 ⟨rfl, hd⟩
      rw [decide_eq_true rfl]
      have hb := hd.below w16.heap.size
      have b17 := below_step b16 (Nat.le_refl _) hb
      clear hb hd
      go_wp2_with fail
      go_ret
      exact ⟨rfl, b17⟩
    · go_enter Try.func11, Try.ntmps11
      go_wp2_with fail
      refine (few_any A3 n3 c3 _ l3 w h3 (by omega)).mono ?_
      rintro e w1 ⟨rfl, hd⟩
      rw [decide_eq_false hf]
      have b1 := hd.below w.heap.size
      clear hd
      go_wp2_with fail
      refine (sanity_any w1).mono ?_
      rintro e w2 ⟨rfl, hb⟩
      have b2 := below_step b1 (Nat.le_refl _) hb
      go_wp2_with fail
      go_ret
      exact ⟨rfl, b2⟩
end Go.Proofs.Ytbofbihpmhkppaa
