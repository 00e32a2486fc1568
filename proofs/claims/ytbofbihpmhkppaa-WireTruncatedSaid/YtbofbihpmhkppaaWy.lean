/- The walk of WireEncodeMatchesSpec: the law returns true. Conditions: the integer, the string and the lists are read in memory, of sizes that the lemma names. -/
import Derived.Test.YtbofbihpmhkppaaWx
import Derived.Test.YtbofbihpmhkppaaWw
namespace Go.Proofs.Ytbofbihpmhkppaa
open Go.RowKit
set_option linter.unusedVariables false

/-- a call that makes a row of bytes: what the walk needs of it -/
theorem made_row {w w' : World} {v : Value} {E : List UInt8} (h : w'.ownsRow w.heap.size 5 1 v E.length (bytesV E)) : ∃ A c, v = .slice A E.length c ∧ E.length ≤ c ∧ Reads w' w'.heap.size 1 A E.length (bytesV E) := by
  obtain ⟨A, c, rfl, hc, -, -⟩ := own_slice h
  exact ⟨A, c, rfl, hc, Reads.of_own h⟩

theorem sizes_cat {l : List ByteArray} (h : sizes l ≤ 2000) : (encStrs l).length ≤ 30000 := by
  have h1 := catS_le l (by omega)
  have h2 := sizes_len l
  have h3 := encInt_le (l.length : Int) (I64.nat (by omega))
  unfold encStrs; rw [List.length_append]; omega
theorem encInts_le {l : List Int} (hI : ∀ x ∈ l, I64 x) (h : l.length ≤ 2000) : (encInts l).length ≤ 30000 := by
  have h1 := cat_le l hI
  have h3 := encInt_le (l.length : Int) (I64.nat (by omega))
  unfold encInts; rw [List.length_append]; omega
theorem encDigs_le {n : Nat} {l : List UInt8} (hl : l.length = n * 16) (h : n ≤ 2000) : (encDigs n l).length ≤ 40000 := by
  have h3 := encInt_le (n : Int) (I64.nat (by omega))
  unfold encDigs; rw [List.length_append]; omega

set_option maxRecDepth 100000 in
set_option maxHeartbeats 4000000 in
theorem wireEncode_any (n : Int) (s : ByteArray) (A2 : Option Addr) (n2 c2 : Nat) (l2 : List Int) (A3 : Option Addr) (n3 c3 : Nat) (l3 : List ByteArray) (A4 : Option Addr) (n4 c4 : Nat) (l4 : List UInt8) (w : World)
    (hn : I64 n) (hs : s.size ≤ 140737488351232) (hc2 : n2 ≤ c2) (hm2 : n2 ≤ 140737488351232) (h2 : Reads w w.heap.size 1 A2 n2 (ints l2)) (hI : ∀ x ∈ l2, I64 x)
    (hc3 : n3 ≤ c3) (hm3 : n3 ≤ 140737488351232) (h3 : Reads w w.heap.size 1 A3 n3 (strs l3)) (hz : sizes l3 ≤ 1048576)
    (hc4 : n4 ≤ c4) (hm4 : n4 ≤ 140737488351232) (h4 : Reads w w.heap.size 16 A4 n4 (bytesV l4)) :
    Calls Try.prog 6 #[.int .i64 n, .string s, .slice A2 n2 c2, .slice A3 n3 c3, .slice A4 n4 c4] w fun e W' => e = .returned (.bool true) ∧ Below w.heap.size w W' := by
  by_cases hbig : s.size + n2 + n4 > 2000
  · have hb2 : (s.size : Int) + (n2 : Int) + (n4 : Int) > 2000 := by omega
    go_enter Try.func6, Try.ntmps6
    go_wp2_with fail
    refine (sanity_any w).mono ?_
    rintro e w1 ⟨rfl, hb⟩
    go_wp2_with fail
    go_ret
    exact ⟨rfl, hb⟩
  · have hb2 : ¬ (s.size : Int) + (n2 : Int) + (n4 : Int) > 2000 := by omega
    by_cases hf : sizes l3 ≤ 2000
    · have el2 := h2.int_len
      have L2 := encInts_le hI (by omega)
      have L3 := sizes_cat hf
      have L4 := encDigs_le (n := n4) (l := l4) (by have := h4.1; rw [bytesV_length] at this; exact this) (by omega)
      have L1 := encBytes_le s (by omega)
      have L0 := encInt_le n hn
      clear el2
      obtain ⟨E0, e0⟩ : ∃ E, E = encInt n := ⟨_, rfl⟩
      obtain ⟨E1, e1⟩ : ∃ E, E = encBytes s.data.toList := ⟨_, rfl⟩
      obtain ⟨E2, e2⟩ : ∃ E, E = encInts l2 := ⟨_, rfl⟩
      obtain ⟨E3, e3⟩ : ∃ E, E = encStrs l3 := ⟨_, rfl⟩
      obtain ⟨E4, e4⟩ : ∃ E, E = encDigs n4 l4 := ⟨_, rfl⟩
      rw [← e0] at L0; rw [← e1] at L1; rw [← e2] at L2; rw [← e3] at L3; rw [← e4] at L4
      have H0 := Lib.hid e0
      have H1 := Lib.hid e1
      have H2 := Lib.hid e2
      have H3 := Lib.hid e3
      have H4 := Lib.hid e4
      clear e0 e1 e2 e3 e4
      go_enter Try.func6, Try.ntmps6
      go_wp2_with fail
      refine (few_any A3 n3 c3 _ l3 w h3 (by omega)).mono ?_
      rintro e w1 ⟨rfl, hd⟩
      rw [decide_eq_true hf]
      have b1 := hd.below w.heap.size
      clear hd
      go_wp2_with fail
      refine (sanity_any w1).mono ?_
      rintro e w2 ⟨rfl, hb⟩
      have b2 := below_step b1 (Nat.le_refl _) hb
      clear hb b1
      go_wp2_with fail
      refine (wInt_any n w2 hn.1 hn.2).mono ?_
      rintro e w3 ⟨v, rfl, hown, hb⟩
      rw [← H0.out] at hown
      obtain ⟨Ap, cp, rfl, -, Rp⟩ := made_row hown
      have b3 := below_step b2 (Nat.le_refl _) hb
      clear hb hown b2
      go_wp2_with fail
      refine (rInt_any n w3 hn.1 hn.2).mono ?_
      rintro e w4 ⟨v, rfl, hown, hb⟩
      rw [← H0.out] at hown
      obtain ⟨Aq, cq, rfl, -, Rq⟩ := made_row hown
      have b4 := below_step b3 (Nat.le_refl _) hb
      have Rp := Rp.below hb
      have Rp := Rp.more hb.size
      clear hb hown b3
      go_wp2_with fail
      refine (same_any Ap Aq _ _ cp cq E0 E0 _ w4 Rp Rq (by omega) (by omega)).mono ?_
      rintro e w5 ⟨rfl, hd⟩
      rw [decide_eq_true rfl]
      have b5 := below_draw b4 hd
      clear hd b4 Rp Rq
      go_wp2_with fail
      refine (wBytes_any s w5 (by omega)).mono ?_
      rintro e w6 ⟨v, rfl, hown, hb⟩
      rw [← H1.out] at hown
      obtain ⟨Ap, cp, rfl, -, Rp⟩ := made_row hown
      have b6 := below_step b5 (Nat.le_refl _) hb
      clear hb hown b5
      go_wp2_with fail
      refine (rBytes_any s w6 (by omega)).mono ?_
      rintro e w7 ⟨v, rfl, hown, hb⟩
      rw [← H1.out] at hown
      obtain ⟨Aq, cq, rfl, -, Rq⟩ := made_row hown
      have b7 := below_step b6 (Nat.le_refl _) hb
      have Rp := Rp.below hb
      have Rp := Rp.more hb.size
      clear hb hown b6
      go_wp2_with fail
      refine (same_any Ap Aq _ _ cp cq E1 E1 _ w7 Rp Rq (by omega) (by omega)).mono ?_
      rintro e w8 ⟨rfl, hd⟩
      rw [decide_eq_true rfl]
      have b8 := below_draw b7 hd
      clear hd b7 Rp Rq
      go_wp2_with fail
      refine (wInts_any A2 n2 c2 l2 w8 (h2.below b8 |>.more b8.size) hI (by omega)).mono ?_
      rintro e w9 ⟨v, rfl, hown, hb⟩
      rw [← H2.out] at hown
      obtain ⟨Ap, cp, rfl, -, Rp⟩ := made_row hown
      have b9 := below_step b8 (Nat.le_refl _) hb
      clear hb hown b8
      go_wp2_with fail
      refine (rInts_any A2 n2 c2 l2 w9 (h2.below b9 |>.more b9.size) hI (by omega)).mono ?_
      rintro e w10 ⟨v, rfl, hown, hb⟩
      rw [← H2.out] at hown
      obtain ⟨Aq, cq, rfl, -, Rq⟩ := made_row hown
      have b10 := below_step b9 (Nat.le_refl _) hb
      have Rp := Rp.below hb
      have Rp := Rp.more hb.size
      clear hb hown b9
      go_wp2_with fail
      refine (same_any Ap Aq _ _ cp cq E2 E2 _ w10 Rp Rq (by omega) (by omega)).mono ?_
      rintro e w11 ⟨rfl, hd⟩
      rw [decide_eq_true rfl]
      have b11 := below_draw b10 hd
      clear hd b10 Rp Rq
      go_wp2_with fail
      refine (wStrs_any A3 n3 c3 l3 w11 (h3.below b11 |>.more b11.size) (by omega)).mono ?_
      rintro e w12 ⟨v, rfl, hown, hb⟩
      rw [← H3.out] at hown
      obtain ⟨Ap, cp, rfl, -, Rp⟩ := made_row hown
      have b12 := below_step b11 (Nat.le_refl _) hb
      clear hb hown b11
      go_wp2_with fail
      refine (rStrs_any A3 n3 c3 l3 w12 (h3.below b12 |>.more b12.size) (by omega)).mono ?_
      rintro e w13 ⟨v, rfl, hown, hb⟩
      rw [← H3.out] at hown
      obtain ⟨Aq, cq, rfl, -, Rq⟩ := made_row hown
      have b13 := below_step b12 (Nat.le_refl _) hb
      have Rp := Rp.below hb
      have Rp := Rp.more hb.size
      clear hb hown b12
      go_wp2_with fail
      refine (same_any Ap Aq _ _ cp cq E3 E3 _ w13 Rp Rq (by omega) (by omega)).mono ?_
      rintro e w14 ⟨rfl, hd⟩
      rw [decide_eq_true rfl]
      have b14 := below_draw b13 hd
      clear hd b13 Rp Rq
      go_wp2_with fail
      refine (wDigs_any A4 n4 c4 l4 w14 (h4.below b14 |>.more b14.size) (by omega)).mono ?_
      rintro e w15 ⟨v, rfl, hown, hb⟩
      rw [← H4.out] at hown
      obtain ⟨Ap, cp, rfl, -, Rp⟩ := made_row hown
      have b15 := below_step b14 (Nat.le_refl _) hb
      clear hb hown b14
      go_wp2_with fail
      refine (rDigs_any A4 n4 c4 l4 w15 (h4.below b15 |>.more b15.size) (by omega)).mono ?_
      rintro e w16 ⟨v, rfl, hown, hb⟩
      rw [← H4.out] at hown
      obtain ⟨Aq, cq, rfl, -, Rq⟩ := made_row hown
      have b16 := below_step b15 (Nat.le_refl _) hb
      have Rp := Rp.below hb
      have Rp := Rp.more hb.size
      clear hb hown b15
      go_wp2_with fail
      refine (same_any Ap Aq _ _ cp cq E4 E4 _ w16 Rp Rq (by omega) (by omega)).mono ?_
      rintro e w17 ⟨rfl, hd⟩
      rw [decide_eq_true rfl]
      have b17 := below_draw b16 hd
      clear hd b16 Rp Rq
      go_wp2_with fail
      go_ret
      exact ⟨rfl, b17⟩
    · go_enter Try.func6, Try.ntmps6
      go_wp2_with fail
      refine (few_any A3 n3 c3 _ l3 w h3 (by omega)).mono ?_
      rintro e w1 ⟨rfl, hd⟩
      rw [decide_eq_false hf]
      have b1 := hd.below w.heap.size
      clear hd
      go_wp2_with fail
      refine (sanity_any w1).mono ?_
      rintro e w2 ⟨rfl, hb⟩
      have b2 := below_step b1 (Nat.le_refl _) hb
      go_wp2_with fail
      go_ret
      exact ⟨rfl, b2⟩
end Go.Proofs.Ytbofbihpmhkppaa
