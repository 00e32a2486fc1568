/- The walk of WireConcat: the law returns true. Conditions: the string and the list are read in memory, of sizes that the lemma names. -/
import Derived.Test.YtbofbihpmhkppaaWy
namespace Go.Proofs.Ytbofbihpmhkppaa
open Go.RowKit
set_option linter.unusedVariables false

set_option maxRecDepth 100000 in
set_option maxHeartbeats 4000000 in
theorem wireConcat_any (s : ByteArray) (A2 : Option Addr) (n2 c2 : Nat) (l2 : List Int) (w : World)
    (hs : s.size ≤ 140737488351232) (hc2 : n2 ≤ c2) (hm2 : n2 ≤ 140737488351232) (h2 : Reads w w.heap.size 1 A2 n2 (ints l2)) (hI : ∀ x ∈ l2, I64 x) :
    Calls Try.prog 13 #[.string s, .slice A2 n2 c2] w fun e W' => e = .returned (.bool true) ∧ Below w.heap.size w W' := by
  by_cases hbig : s.size + n2 > 2000
  · have hb2 : (s.size : Int) + (n2 : Int) > 2000 := by omega
    go_enter Try.func13, Try.ntmps13
    go_wp2_with fail
    refine (sanity_any w).mono ?_
    rintro e w1 ⟨rfl, hb⟩
    go_wp2_with fail
    go_ret
    exact ⟨rfl, hb⟩
  · have hb2 : ¬ (s.size : Int) + (n2 : Int) > 2000 := by omega
    obtain ⟨i0, hi, hz0, hz1, hz2⟩ := info_parts info_u8
    have el2 := h2.int_len
    have L2 := encInts_le hI (by omega)
    have L1 := encBytes_le s (by omega)
    have D1 : ∀ t, decB (encBytes s.data.toList ++ t) = .ok (s.data.toList, (encBytes s.data.toList).length) := fun t => decB_round _ t (by rw [size_list]; omega)
    have D2 : decL decI (encInts l2) = .ok (l2, (encInts l2).length) := by have := ints_round l2 [] (by omega) hI; rwa [List.append_nil] at this
    have P1 := encBytes_pos s.data.toList
    have EL := Lib.hid el2
    clear el2
    obtain ⟨E1, e1⟩ : ∃ E, E = encBytes s.data.toList := ⟨_, rfl⟩
    obtain ⟨E2, e2⟩ : ∃ E, E = encInts l2 := ⟨_, rfl⟩
    have P2 : 1 ≤ (encInts l2).length := by unfold encInts; rw [List.length_append, encInt_length]; omega
    rw [← e1] at L1 D1 P1; rw [← e2] at L2 D2 P2
    have H1 := Lib.hid e1
    have H2 := Lib.hid e2
    have HD1 := Lib.hid (D1 E2)
    have HD2 := Lib.hid D2
    clear e1 e2 D1 D2
    go_enter Try.func13, Try.ntmps13
    go_wp2_with fail
    have hn := own_new w 5 #[] w.heap.size (Nat.le_refl _) (by unfold maxLen; simp)
    refine (wBytes_any s _ (by omega)).mono ?_
    rintro e w1 ⟨v, rfl, hown, hb⟩
    rw [← H1.out] at hown
    obtain ⟨Ap, cp, rfl, -, Rp⟩ := made_row hown
    have hn1 := own_below hn hb
    have b1 := below_step ((Below.refl _ w).alloc (Nat.le_refl _) (.cells #[] 5)) (Nat.le_refl _) hb
    clear hn hb hown
    go_wp2_with (at_builtin; refine wpList_append_reads _ rfl _ _ 46 rfl w.heap.size 5 i0 (.int .u8 0) 1 1 Try.underlying46 hi hz0 hz1 hz2 rfl (by decide) _ _ _ rfl hn1 _ Ap E1.length cp (bytesV E1) rfl Rp (bytesV_one _) (by unfold maxLen; simp; omega) (by simp; omega) b1.size ?_; intro v2 w2 hn2 hg)
    have b2 := b1.grown hg b1.size (fun b e => (hn1.lt b e).1)
    have hn3 : w2.ownsRow w.heap.size 5 1 v2 E1.length (bytesV E1) := by simpa using hn2
    clear hn1 hg hn2 b1 Rp
    refine (wInts_any A2 n2 c2 l2 w2 (h2.below b2 |>.more b2.size) hI (by omega)).mono ?_
    rintro e w3 ⟨v, rfl, hown, hb⟩
    rw [← H2.out] at hown
    obtain ⟨Aq, cq, rfl, -, Rq⟩ := made_row hown
    have hn4 := own_below hn3 hb
    have b3 := below_step b2 (Nat.le_refl _) hb
    clear hn3 hb hown
    go_wp2_with (at_builtin; refine wpList_append_reads _ rfl _ _ 46 rfl w.heap.size 5 i0 (.int .u8 0) 1 1 Try.underlying46 hi hz0 hz1 hz2 rfl (by decide) _ _ _ rfl hn4 _ Aq E2.length cq (bytesV E2) rfl Rq (bytesV_one _) (by unfold maxLen; omega) (by omega) b3.size ?_; intro v4 w4 hn5 hg)
    have b4 := b3.grown hg b3.size (fun b e => (hn4.lt b e).1)
    rw [← bytesV_append] at hn5
    obtain ⟨g, cap, rfl, hg1, hg2⟩ := hn5.form (by omega)
    have R5 := Reads.of_own hn5
    have hcap : E1.length + E2.length ≤ cap := by
      obtain ⟨_, _, e, h, -, -⟩ := own_slice hn5
      injection e with _ _ e3
      omega
    clear hn4 hg hn5 Rq b3 b2
    refine (wGetBytes_any _ _ cap (E1 ++ E2) w4 R5 (by omega) hcap).mono ?_
    rintro e w5 ⟨rfl, hd⟩
    rw [HD1.out]
    simp only [retB]
    rw [ba_eta]
    have b5 := below_draw b4 hd
    have R6 := R5.below (hd.below _)
    have R6 := R6.more (hd.below w4.heap.size).size
    clear hd R5 b4
    have k1 : decide ((E1.length : Int) < 0) = false := by simp
    have k2 : decide ((E1.length : Int) + (E2.length : Int) < (E1.length : Int)) = false := by simp; omega
    have k3 : ¬ cap = E1.length := by omega
    have R7 : Reads w5 w5.heap.size 1 (some ⟨g, E1.length, none⟩) E2.length (bytesV E2) := by
      have h := reads_drop R6 E1.length (by omega)
      rw [List.drop_left, Nat.add_sub_cancel_left, addr_add0] at h
      exact h
    have k4 : E2.length ≤ cap - E1.length := by omega
    go_wp2_with fail
    refine (wGetInts_any _ _ (cap - E1.length) E2 w5 R7 (by omega) k4).mono ?_
    rintro e w6 hG
    obtain ⟨A6, c6, rfl, -, R6, hb⟩ := got_ok hG HD2.out
    have b6 := below_step b5 (Nat.le_refl _) hb
    clear hb hG R7 b5
    rw [EL.out] at *
    go_wp2_with fail
    refine (sanity_any w6).mono ?_
    rintro e w7 ⟨rfl, hb⟩
    have b7 := below_step b6 (Nat.le_refl _) hb
    have R7 := R6.below hb |>.more hb.size
    clear hb R6 b6
    have k5 : (s.toList == s.toList) = true := by simp
    go_wp2_with fail
    refine (sameInts_any A6 A2 n2 n2 c6 c2 l2 l2 _ w7 R7 (h2.below b7 |>.more b7.size) (by omega) (by omega)).mono ?_
    rintro e w8 ⟨rfl, hd⟩
    rw [decide_eq_true rfl]
    have b8 := below_draw b7 hd
    go_wp2_with fail
    go_ret
    exact ⟨rfl, b8⟩
end Go.Proofs.Ytbofbihpmhkppaa
