/- The walk of WireIntRoundTrip: the law returns true. Conditions: the integer has 64 bits; the bytes are read in memory. -/
import Derived.Test.YtbofbihpmhkppaaWt
namespace Go.Proofs.Ytbofbihpmhkppaa
open Go.RowKit

theorem encInt_pos (n : Int) : 0 < (encInt n).length := by rw [encInt_length]; omega

set_option maxRecDepth 100000 in
set_option maxHeartbeats 2000000 in
theorem wireIntRoundTrip_any (n : Int) (A : Option Addr) (m c : Nat) (l : List UInt8) (w : World) (hn : I64 n) (_hmc : m ≤ c) (hm : m ≤ maxLen) (hl : Reads w w.heap.size 1 A m (bytesV l)) :
    Calls Try.prog 9 #[.int .i64 n, .slice A m c] w fun e W' => e = .returned (.bool true) ∧ Below w.heap.size w W' := by
  unfold maxLen at hm
  by_cases hbig : m > 2000
  · have hb2 : (m : Int) > 2000 := by omega
    go_enter Try.func9, Try.ntmps9
    go_wp2_with fail
    refine (sanity_any w).mono ?_
    rintro e w1 ⟨rfl, hb⟩
    go_wp2_with fail
    go_ret
    exact ⟨rfl, hb⟩
  · have hb2 : ¬ (m : Int) > 2000 := by omega
    obtain ⟨i0, hi, hz0, hz1, hz2⟩ := info_parts info_u8
    have hp := encInt_pos n
    have hle := encInt_le n hn
    obtain ⟨E, hE⟩ : ∃ E, E = encInt n := ⟨_, rfl⟩
    have hdec : decI (E ++ l) = .ok (n, E.length) := by rw [hE]; exact decI_round n hn l
    rw [← hE] at hp hle
    have HD := Lib.hid hdec
    have HE := Lib.hid hE
    have el := hl.byte_len
    have HL := Lib.hid el
    clear hdec hE el
    go_enter Try.func9, Try.ntmps9
    go_wp2_with fail
    refine (wInt_any n w hn.1 hn.2).mono ?_
    rintro e w1 ⟨v, rfl, hown, hb⟩
    rw [← HE.out] at hown
    obtain ⟨g, cap, rfl, hg, hg2⟩ := hown.form hp
    have r1 := Reads.of_own hown
    have hcap : E.length ≤ cap := by
      obtain ⟨_, _, e, h, -, -⟩ := own_slice hown
      injection e with _ _ e3
      omega
    clear hown
    go_wp2_with (at_builtin; refine wpList_append_clip rfl _ _ 46 rfl 5 i0 (.int .u8 0) 1 1 Try.underlying46 hi hz0 hz1 hz2 rfl (by decide) ⟨g, 0, none⟩ E.length (bytesV E) rfl r1 A m c (bytesV l) rfl ((hl.below hb).more hb.size) (by unfold maxLen; omega) (by omega) ?_; intro A2 c2 w2 hc2 r2 hb2)
    rw [← bytesV_append] at r2
    refine (wGetInt_any A2 _ c2 (E ++ l) w2 r2 (by omega) hc2).mono ?_
    rintro e w3 ⟨rfl, hd⟩
    have b3 := (hb.trans (hb2.mono hb.size)).trans ((hd.below w2.heap.size).mono (Nat.le_trans hb.size hb2.size))
    rw [HD.out]
    simp only [retI]
    clear hb hb2 hd r1 r2
    go_wp2_with fail
    refine (sanity_any w3).mono ?_
    rintro e w4 ⟨rfl, hb4⟩
    have k1 : decide ((1 : Int) ≤ (E.length : Int)) = true := by simp; omega
    have k2 : decide ((E.length : Int) ≤ 9) = true := by simp; omega
    have b4 := b3.trans (hb4.mono b3.size)
    go_wp2_with fail
    go_ret
    refine ⟨?_, b4⟩

    rfl
end Go.Proofs.Ytbofbihpmhkppaa
