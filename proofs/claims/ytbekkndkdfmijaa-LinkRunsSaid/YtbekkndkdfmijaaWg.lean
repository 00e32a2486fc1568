/- The reference's GetInt, for any bytes, returns what decI says, as the program's does; nothing that was there is written. Conditions: at most 100000 bytes. -/
import Derived.Test.YtbekkndkdfmijaaWf
import Derived.Deep.RegionHeld3
namespace Go.Proofs.Ytbekkndkdfmijaa
open Go.RowKit

theorem num_mono (neg : Bool) (t : List UInt8) : ∀ (k j : Nat), j ≤ k → num ((t.take j).map (fl neg)) ≤ num ((t.take k).map (fl neg)) := by
  intro k
  induction k with
  | zero => intro j hj; obtain rfl : j = 0 := by omega
            exact Nat.le_refl _
  | succ k ih =>
    intro j hj
    by_cases h : j ≤ k
    · refine Nat.le_trans (ih j h) ?_
      by_cases hk : k < t.length
      · rw [num_take neg t k hk]; omega
      · rw [List.take_of_length_le (by omega), List.take_of_length_le (by omega)]; exact Nat.le_refl _
    · obtain rfl : j = k + 1 := by omega
      exact Nat.le_refl _
/-- a head whose digits are too great -/
theorem decI_big (h : UInt8) (t : List UInt8) (neg : Bool) (k : Nat) (hneg : decide (h.toNat < 128) = neg) (hk : fl neg h - 128 = k) (g1 : ¬ 8 < k) (g2 : ¬ t.length < k)
    (j : Nat) (hj : j < k) (hb : 36028797018963967 < num ((t.take j).map (fl neg))) : decI (h :: t) = .error 2 := by
  rw [decI_cons h t neg k hneg hk, if_neg g1, if_neg g2]
  by_cases g3 : 0 < k ∧ fl neg (t[0]?.getD 0) = 0
  · rw [if_pos g3]
  · rw [if_neg g3, if_pos]
    have h1 := num_mono neg t k (j + 1) hj
    rw [num_take neg t j (by omega)] at h1
    omega
/-- the reference's answer -/
theorem decI_ref (h : UInt8) (t : List UInt8) (neg : Bool) (k : Nat) (hneg : decide (h.toNat < 128) = neg) (hk : fl neg h - 128 = k) (g1 : ¬ 8 < k) (g2 : ¬ t.length < k)
    (n : Int) (hn : n = if neg = true then -1 - (num ((t.take k).map (fl neg)) : Int) else (num ((t.take k).map (fl neg)) : Int)) (hm : num ((t.take k).map (fl neg)) < 9223372036854775808) :
    decI (h :: t) = if encInt n = (h :: t).take (k + 1) then .ok (n, k + 1) else .error 2 := by
  have hI : I64 n := by rw [hn]; unfold I64; split <;> omega
  by_cases he : encInt n = (h :: t).take (k + 1)
  · rw [if_pos he]
    exact (decI_iff (h :: t) n (k + 1) hI (by simp; omega)).2 he
  · rw [if_neg he]
    have hne : decI (h :: t) ≠ .ok (n, k + 1) := fun hd => he ((decI_iff (h :: t) n (k + 1) hI (by simp; omega)).1 hd)
    rw [decI_cons h t neg k hneg hk, if_neg g1, if_neg g2] at hne ⊢
    by_cases g3 : 0 < k ∧ fl neg (t[0]?.getD 0) = 0
    · rw [if_pos g3]
    · rw [if_neg g3, if_neg (by omega)] at hne
      exact absurd (by rw [← hn]) hne

set_option maxRecDepth 100000 in
set_option maxHeartbeats 1000000 in
theorem rGetInt_nil (A : Option Addr) (c : Nat) (w : World) :
    Calls Try.prog 55 #[.slice A 0 c] w fun e W' => e = .returned (retI (.error 3)) ∧ Below w.heap.size w W' := by
  go_enter Try.func55, Try.ntmps55
  go_wp2
  go_ret3
  exact ⟨rfl, Below.refl _ _⟩


set_option maxRecDepth 100000 in
set_option maxHeartbeats 1000000 in
theorem rGetInt_pos (ad : Addr) (n c : Nat) (h : UInt8) (t : List UInt8) (w : World) (hl : Reads w w.heap.size 1 (some ad) n (bytesV (h :: t))) (hn : n ≤ 100000) (hnc : n ≤ c) (hp : 128 ≤ h.toNat) :
    Calls Try.prog 55 #[.slice (some ad) n c] w fun e W' => e = .returned (retI (decI (h :: t))) ∧ Below w.heap.size w W' := by
  have hh := h.toNat_lt
  obtain ⟨k, hk⟩ : ∃ k : Nat, h.toNat = 128 + k := ⟨h.toNat - 128, by omega⟩
  have hneg : decide (h.toNat < 128) = false := by simp; omega
  have hkk : fl false h - 128 = k := by unfold fl; simp; omega
  have hdec := decI_cons h t false k hneg hkk
  have el := hl.byte_len
  rw [List.length_cons] at el
  have g0 : (n : Int) ≠ 0 := by omega
  have c0 : w.cell? ad = some (.int .u8 ((h.toNat : Nat) : Int)) := by
    obtain ⟨ad', e1, -, -, e2⟩ := hl.byte_at (k := 0) (by omega)
    cases e1
    simpa [Addr.add] using e2
  have c1 : ∀ i, 1 ≤ i → i ≤ t.length → w.cell? (ad.add i) = some (.int .u8 (((t[i - 1]?.getD 0).toNat : Nat) : Int)) := by
    intro i h1 hi
    obtain ⟨ad', e1, -, -, e2⟩ := hl.byte_at (k := i) (by omega)
    cases e1
    obtain ⟨j, rfl⟩ : ∃ j, i = j + 1 := ⟨i - 1, by omega⟩
    rw [e2]; rfl
  have g1 : ¬ ((h.toNat : Int) < 128) := by omega
  obtain ⟨H, hH⟩ : ∃ H : Nat, H = h.toNat := ⟨_, rfl⟩
  rw [← hH] at g1 c0 hk hh
  have hkb : (k : Int) ≤ 127 := by omega
  have hHb : (H : Int) ≤ 255 := by omega
  have x2 : IntKind.i64.wrap ((H : Int) - 128) = (k : Int) := by rw [IntWalk.i64_in _ (by omega)]; omega
  by_cases g2 : 8 < (k : Int)
  · rw [hdec, if_pos (by omega)]
    have gx : 136 < (H : Int) := by omega
    have gy : ¬ ((H : Int) < 119) := by omega
    clear hk hp
    go_enter Try.func55, Try.ntmps55
    go_wp2
    go_ret3
    exact ⟨rfl, Below.refl _ _⟩
  have gx : ¬ 136 < (H : Int) := by omega
  have gy : ¬ ((H : Int) < 119) := by omega
  have HK := Lib.hid hk
  clear hp hk
  have HH := Lib.hid hH
  clear hH
  have HC := Lib.hid c1
  clear c1
  by_cases g3 : (n : Int) < (k : Int) + 1
  · rw [hdec, if_neg (by omega), if_pos (by omega)]
    go_enter Try.func55, Try.ntmps55
    go_wp2
    go_ret3
    exact ⟨rfl, Below.refl _ _⟩
  have hbig := decI_big h t false k hneg hkk (by omega) (by omega)
  have href := decI_ref h t false k hneg hkk (by omega) (by omega)
  obtain ⟨R, hR⟩ : ∃ R, R = decI (h :: t) := ⟨_, rfl⟩
  rw [← hR] at hbig href hdec ⊢
  have HB := Lib.hid hbig
  have HF := Lib.hid href
  have HRR := Lib.hid hR
  clear hbig href hdec hneg hkk hR
  have hk8 : k ≤ 8 := by omega
  have b1 : (k : Int) + 1 ≤ (c : Int) := by omega
  have hkc : k + 1 ≤ c := by omega
  go_enter Try.func55, Try.ntmps55
  go_wp2
  go_loop [7, 8] (fun m i => ∃ j : Nat, 1 ≤ j ∧ j ≤ k + 1 ∧ i = .int .i64 j ∧ m = .int .i64 (num ((t.take (j - 1)).map (fl false))) ∧ num ((t.take (j - 1)).map (fl false)) < 9223372036854775808) (fun _ i => k + 1 - (intOf i).toNat)
  case atStart => exact ⟨1, by omega, by omega, rfl, rfl, by simp [num]⟩
  case round =>
    obtain ⟨j, hj1, hj, rfl, rfl, hM⟩ := hrel
    by_cases hlt : j ≤ k
    · have hji : (j : Int) ≤ (k : Int) := by omega
      have c3 := HC.out j hj1 (by omega)
      have hs := num_take false t (j - 1) (by omega)
      rw [show j - 1 + 1 = j by omega] at hs
      have hd := fl_lt false (t[j - 1]?.getD 0)
      have hbig := HB.out (j - 1) (by omega)
      have hD : (t[j - 1]?.getD 0).toNat < 256 := (t[j - 1]?.getD 0).toNat_lt
      have hfd : fl false (t[j - 1]?.getD 0) = (t[j - 1]?.getD 0).toNat := rfl
      generalize num ((t.take (j - 1)).map (fl false)) = M at *
      generalize fl false (t[j - 1]?.getD 0) = d at *
      generalize (t[j - 1]?.getD 0).toNat = D3 at *
      subst hfd
      skip
      by_cases g6 : 36028797018963967 < (M : Int)
      · have hR2 := Lib.hid (hbig (by omega))
        clear hbig hs
        go_wp2
        go_ret3
        exact ⟨by rw [hR2.out]; rfl, Below.refl _ _⟩
      · have HS := Lib.hid hs
        clear hs hbig
        go_wp2
        go_round
        case rel => exact ⟨j + 1, by omega, by omega, by go_num, by rw [Nat.add_sub_cancel, HS.out]; first | (go_num; done) | (go_num; omega), by rw [Nat.add_sub_cancel, HS.out]; omega⟩
        case measure => simp [intOf]; omega
    · obtain rfl : j = k + 1 := by omega
      rw [Nat.add_sub_cancel] at hM ⊢
      have g9 : ¬ ((k : Int) + 1 ≤ (k : Int)) := by omega
      have hF := fun z hz => HF.out z hz hM
      generalize num ((t.take k).map (fl false)) = M at *
      have hF2 := hF ((M : Int)) (by simp)
      clear hF
      have b2 : IntKind.i64.wrap ((k : Int) + 1) = (k : Int) + 1 := IntWalk.i64_in _ (by omega)
      have b3 : 0 ≤ (k : Int) + 1 := by omega
      have hlT := hl.take (k := k + 1) (by omega)
      rw [show (bytesV (h :: t)).take ((k + 1) * 1) = bytesV ((h :: t).take (k + 1)) by rw [Nat.mul_one]; simp [bytesV]] at hlT
      have hle := encInt_le ((M : Int)) ⟨by omega, by omega⟩
      by_cases hE : encInt ((M : Int)) = (h :: t).take (k + 1)
      · rw [if_pos hE] at hF2
        have HF2 := Lib.hid hF2
        clear hF2 HF
        have hdE : decide (encInt ((M : Int)) = (h :: t).take (k + 1)) = true := by rw [decide_eq_true_iff]; exact hE
        clear hE
        go_wp2
        go_region_held3 (fun w' => Below w.heap.size w w') (first | exact Below.refl _ _ | assumption | exact (Below.refl _ _).drew | exact Below.drew (by assumption)) (first
          | (go_at_call 45; refine (rInt_any ((M : Int)) _ (by omega) (by omega)).mono ?_; rintro e w1 ⟨v, rfl, hown, hb⟩; have hb2 : Below w.heap.size w w1 := Below.trans (by assumption) hb; obtain ⟨A2, c2, rfl, hr2⟩ := own_reads1 hown; have hX := (fun W (hw : Below w1.heap.size w1 W) => same_any A2 (some ad) _ _ c2 c (encInt ((M : Int))) ((h :: t).take (k + 1)) w1.heap.size W (hr2.below hw) (((hlT.below hb2).more hb2.size).below hw) (by omega) (by omega)); rw [hdE] at hX; have HX := Lib.hid hX; clear hown hX hr2 hb)
          | (go_at_call 29; refine (HX.out _ (by first | exact Below.refl _ _ | exact (Below.refl _ _).drew)).mono ?_; rintro e w3 ⟨rfl, q, rfl⟩; have hb4 := below_drewN' hb2 q))
        go_wp2
        go_ret3
        exact ⟨by rw [HF2.out]; rfl, by assumption⟩
      · rw [if_neg hE] at hF2
        have HF2 := Lib.hid hF2
        clear hF2 HF
        have hdE : decide (encInt ((M : Int)) = (h :: t).take (k + 1)) = false := by rw [decide_eq_false_iff_not]; exact hE
        clear hE
        go_wp2
        go_region_held3 (fun w' => Below w.heap.size w w') (first | exact Below.refl _ _ | assumption | exact (Below.refl _ _).drew | exact Below.drew (by assumption)) (first
          | (go_at_call 45; refine (rInt_any ((M : Int)) _ (by omega) (by omega)).mono ?_; rintro e w1 ⟨v, rfl, hown, hb⟩; have hb2 : Below w.heap.size w w1 := Below.trans (by assumption) hb; obtain ⟨A2, c2, rfl, hr2⟩ := own_reads1 hown; have hX := (fun W (hw : Below w1.heap.size w1 W) => same_any A2 (some ad) _ _ c2 c (encInt ((M : Int))) ((h :: t).take (k + 1)) w1.heap.size W (hr2.below hw) (((hlT.below hb2).more hb2.size).below hw) (by omega) (by omega)); rw [hdE] at hX; have HX := Lib.hid hX; clear hown hX hr2 hb)
          | (go_at_call 29; refine (HX.out _ (by first | exact Below.refl _ _ | exact (Below.refl _ _).drew)).mono ?_; rintro e w3 ⟨rfl, q, rfl⟩; have hb4 := below_drewN' hb2 q))
        go_wp2
        go_ret3
        exact ⟨by rw [HF2.out]; rfl, by assumption⟩


set_option maxRecDepth 100000 in
set_option maxHeartbeats 1000000 in
theorem rGetInt_neg (ad : Addr) (n c : Nat) (h : UInt8) (t : List UInt8) (w : World) (hl : Reads w w.heap.size 1 (some ad) n (bytesV (h :: t))) (hn : n ≤ 100000) (hnc : n ≤ c) (hp : h.toNat < 128) :
    Calls Try.prog 55 #[.slice (some ad) n c] w fun e W' => e = .returned (retI (decI (h :: t))) ∧ Below w.heap.size w W' := by
  have hh := h.toNat_lt
  obtain ⟨k, hk⟩ : ∃ k : Nat, h.toNat + k = 127 := ⟨127 - h.toNat, by omega⟩
  have hneg : decide (h.toNat < 128) = true := by simp; omega
  have hkk : fl true h - 128 = k := by unfold fl; simp; omega
  have hdec := decI_cons h t true k hneg hkk
  have el := hl.byte_len
  rw [List.length_cons] at el
  have g0 : (n : Int) ≠ 0 := by omega
  have c0 : w.cell? ad = some (.int .u8 ((h.toNat : Nat) : Int)) := by
    obtain ⟨ad', e1, -, -, e2⟩ := hl.byte_at (k := 0) (by omega)
    cases e1
    simpa [Addr.add] using e2
  have c1 : ∀ i, 1 ≤ i → i ≤ t.length → w.cell? (ad.add i) = some (.int .u8 (((t[i - 1]?.getD 0).toNat : Nat) : Int)) := by
    intro i h1 hi
    obtain ⟨ad', e1, -, -, e2⟩ := hl.byte_at (k := i) (by omega)
    cases e1
    obtain ⟨j, rfl⟩ : ∃ j, i = j + 1 := ⟨i - 1, by omega⟩
    rw [e2]; rfl
  have g1 : (h.toNat : Int) < 128 := by omega
  obtain ⟨H, hH⟩ : ∃ H : Nat, H = h.toNat := ⟨_, rfl⟩
  rw [← hH] at g1 c0 hk hh
  have hkb : (k : Int) ≤ 127 := by omega
  have hHb : (H : Int) ≤ 255 := by omega
  have x2 : IntKind.i64.wrap (127 - (H : Int)) = (k : Int) := by rw [IntWalk.i64_in _ (by omega)]; omega
  by_cases g2 : 8 < (k : Int)
  · rw [hdec, if_pos (by omega)]
    have gx : (H : Int) < 119 := by omega
    skip
    clear hk hp
    go_enter Try.func55, Try.ntmps55
    go_wp2
    go_ret3
    exact ⟨rfl, Below.refl _ _⟩
  have gx : ¬ 136 < (H : Int) := by omega
  have gy : ¬ ((H : Int) < 119) := by omega
  have HK := Lib.hid hk
  clear hp hk
  have HH := Lib.hid hH
  clear hH
  have HC := Lib.hid c1
  clear c1
  by_cases g3 : (n : Int) < (k : Int) + 1
  · rw [hdec, if_neg (by omega), if_pos (by omega)]
    go_enter Try.func55, Try.ntmps55
    go_wp2
    go_ret3
    exact ⟨rfl, Below.refl _ _⟩
  have hbig := decI_big h t true k hneg hkk (by omega) (by omega)
  have href := decI_ref h t true k hneg hkk (by omega) (by omega)
  obtain ⟨R, hR⟩ : ∃ R, R = decI (h :: t) := ⟨_, rfl⟩
  rw [← hR] at hbig href hdec ⊢
  have HB := Lib.hid hbig
  have HF := Lib.hid href
  have HRR := Lib.hid hR
  clear hbig href hdec hneg hkk hR
  have hk8 : k ≤ 8 := by omega
  have b1 : (k : Int) + 1 ≤ (c : Int) := by omega
  have hkc : k + 1 ≤ c := by omega
  go_enter Try.func55, Try.ntmps55
  go_wp2
  go_loop [7, 8] (fun m i => ∃ j : Nat, 1 ≤ j ∧ j ≤ k + 1 ∧ i = .int .i64 j ∧ m = .int .i64 (num ((t.take (j - 1)).map (fl true))) ∧ num ((t.take (j - 1)).map (fl true)) < 9223372036854775808) (fun _ i => k + 1 - (intOf i).toNat)
  case atStart => exact ⟨1, by omega, by omega, rfl, rfl, by simp [num]⟩
  case round =>
    obtain ⟨j, hj1, hj, rfl, rfl, hM⟩ := hrel
    by_cases hlt : j ≤ k
    · have hji : (j : Int) ≤ (k : Int) := by omega
      have c3 := HC.out j hj1 (by omega)
      have hs := num_take true t (j - 1) (by omega)
      rw [show j - 1 + 1 = j by omega] at hs
      have hd := fl_lt true (t[j - 1]?.getD 0)
      have hbig := HB.out (j - 1) (by omega)
      have hD : (t[j - 1]?.getD 0).toNat < 256 := (t[j - 1]?.getD 0).toNat_lt
      have hfd : ((fl true (t[j - 1]?.getD 0) : Nat) : Int) = 255 - ((t[j - 1]?.getD 0).toNat : Int) := by unfold fl; simp; omega
      generalize num ((t.take (j - 1)).map (fl true)) = M at *
      generalize fl true (t[j - 1]?.getD 0) = d at *
      generalize (t[j - 1]?.getD 0).toNat = D3 at *
      have x5 : IntKind.i64.wrap (255 - (D3 : Int)) = (d : Int) := by rw [IntWalk.i64_in _ (by omega)]; omega
      clear hfd
      by_cases g6 : 36028797018963967 < (M : Int)
      · have hR2 := Lib.hid (hbig (by omega))
        clear hbig hs
        go_wp2
        go_ret3
        exact ⟨by rw [hR2.out]; rfl, Below.refl _ _⟩
      · have HS := Lib.hid hs
        clear hs hbig
        go_wp2
        go_round
        case rel => exact ⟨j + 1, by omega, by omega, by go_num, by rw [Nat.add_sub_cancel, HS.out]; first | (go_num; done) | (go_num; omega), by rw [Nat.add_sub_cancel, HS.out]; omega⟩
        case measure => simp [intOf]; omega
    · obtain rfl : j = k + 1 := by omega
      rw [Nat.add_sub_cancel] at hM ⊢
      have g9 : ¬ ((k : Int) + 1 ≤ (k : Int)) := by omega
      have hF := fun z hz => HF.out z hz hM
      generalize num ((t.take k).map (fl true)) = M at *
      have hF2 := hF (-1 - (M : Int)) (by simp)
      clear hF
      have b2 : IntKind.i64.wrap ((k : Int) + 1) = (k : Int) + 1 := IntWalk.i64_in _ (by omega)
      have b3 : 0 ≤ (k : Int) + 1 := by omega
      have hlT := hl.take (k := k + 1) (by omega)
      rw [show (bytesV (h :: t)).take ((k + 1) * 1) = bytesV ((h :: t).take (k + 1)) by rw [Nat.mul_one]; simp [bytesV]] at hlT
      have hle := encInt_le (-1 - (M : Int)) ⟨by omega, by omega⟩
      by_cases hE : encInt (-1 - (M : Int)) = (h :: t).take (k + 1)
      · rw [if_pos hE] at hF2
        have HF2 := Lib.hid hF2
        clear hF2 HF
        have hdE : decide (encInt (-1 - (M : Int)) = (h :: t).take (k + 1)) = true := by rw [decide_eq_true_iff]; exact hE
        clear hE
        go_wp2
        go_region_held3 (fun w' => Below w.heap.size w w') (first | exact Below.refl _ _ | assumption | exact (Below.refl _ _).drew | exact Below.drew (by assumption)) (first
          | (go_at_call 45; refine (rInt_any (-1 - (M : Int)) _ (by omega) (by omega)).mono ?_; rintro e w1 ⟨v, rfl, hown, hb⟩; have hb2 : Below w.heap.size w w1 := Below.trans (by assumption) hb; obtain ⟨A2, c2, rfl, hr2⟩ := own_reads1 hown; have hX := (fun W (hw : Below w1.heap.size w1 W) => same_any A2 (some ad) _ _ c2 c (encInt (-1 - (M : Int))) ((h :: t).take (k + 1)) w1.heap.size W (hr2.below hw) (((hlT.below hb2).more hb2.size).below hw) (by omega) (by omega)); rw [hdE] at hX; have HX := Lib.hid hX; clear hown hX hr2 hb)
          | (go_at_call 29; refine (HX.out _ (by first | exact Below.refl _ _ | exact (Below.refl _ _).drew)).mono ?_; rintro e w3 ⟨rfl, q, rfl⟩; have hb4 := below_drewN' hb2 q))
        go_wp2
        go_ret3
        exact ⟨by rw [HF2.out]; rfl, by assumption⟩
      · rw [if_neg hE] at hF2
        have HF2 := Lib.hid hF2
        clear hF2 HF
        have hdE : decide (encInt (-1 - (M : Int)) = (h :: t).take (k + 1)) = false := by rw [decide_eq_false_iff_not]; exact hE
        clear hE
        go_wp2
        go_region_held3 (fun w' => Below w.heap.size w w') (first | exact Below.refl _ _ | assumption | exact (Below.refl _ _).drew | exact Below.drew (by assumption)) (first
          | (go_at_call 45; refine (rInt_any (-1 - (M : Int)) _ (by omega) (by omega)).mono ?_; rintro e w1 ⟨v, rfl, hown, hb⟩; have hb2 : Below w.heap.size w w1 := Below.trans (by assumption) hb; obtain ⟨A2, c2, rfl, hr2⟩ := own_reads1 hown; have hX := (fun W (hw : Below w1.heap.size w1 W) => same_any A2 (some ad) _ _ c2 c (encInt (-1 - (M : Int))) ((h :: t).take (k + 1)) w1.heap.size W (hr2.below hw) (((hlT.below hb2).more hb2.size).below hw) (by omega) (by omega)); rw [hdE] at hX; have HX := Lib.hid hX; clear hown hX hr2 hb)
          | (go_at_call 29; refine (HX.out _ (by first | exact Below.refl _ _ | exact (Below.refl _ _).drew)).mono ?_; rintro e w3 ⟨rfl, q, rfl⟩; have hb4 := below_drewN' hb2 q))
        go_wp2
        go_ret3
        exact ⟨by rw [HF2.out]; rfl, by assumption⟩

theorem rGetInt_any (A : Option Addr) (n c : Nat) (l : List UInt8) (w : World) (hl : Reads w w.heap.size 1 A n (bytesV l)) (hn : n ≤ 100000) (hnc : n ≤ c) :
    Calls Try.prog 55 #[.slice A n c] w fun e W' => e = .returned (retI (decI l)) ∧ Below w.heap.size w W' := by
  have el := hl.byte_len
  cases l with
  | nil =>
    obtain rfl : n = 0 := by simpa using el.symm
    exact rGetInt_nil A c w
  | cons h t =>
    obtain ⟨ad, rfl, -⟩ := hl.byte_at (k := 0) (by simp at el; omega)
    by_cases hp : h.toNat < 128
    · exact rGetInt_neg ad n c h t w hl hn hnc hp
    · exact rGetInt_pos ad n c h t w hl hn hnc (by omega)
end Go.Proofs.Ytbekkndkdfmijaa
