/- The walk of the law PermDraws. Conditions: the round constants lie in their variable. -/
import Derived.Test.YtiajlglnefiemaaDoorPg
set_option linter.unusedSimpArgs false
set_option linter.unusedVariables false
namespace Go.Proofs.YtiajlglnefiemaaDoor
open Go.RowKit

theorem xor_bit {a b : Nat} (ha : a < 2) (hb : b < 2) : a ^^^ b = (a + b) % 2 := by
  have h1 : a = 0 ∨ a = 1 := by omega
  have h2 : b = 0 ∨ b = 1 := by omega
  rcases h1 with rfl | rfl <;> rcases h2 with rfl | rfl <;> rfl
theorem place4 (t : ByteArray) (L : List Int) {x : Nat} (hx : x < 4) : placeN t L 4 x = one 2 (fwd (rnd t L 2) 4 (two 2 x)) := by
  have hlt : mixN t L 4 x < 4 := mixN_lt t L 4 x (by show x < 4; exact hx)
  have hw : Walks (mixN t L 4) 4 x 0 := ⟨hlt, fun j hj => absurd hj (by omega)⟩
  show place (mixN t L 4) 4 x = _
  rw [place_eq hw]
  rfl
set_option maxRecDepth 100000 in
set_option maxHeartbeats 8000000 in
theorem permDraws_any (s : ByteArray) (A : Option Addr) (n c : Nat) (l : List Int) (w : World) (hs : s.size ≤ maxLen) (_hnc : n ≤ c) (_hm : n ≤ maxLen) (hl : Reads w w.heap.size 1 A n (ints l)) (hI : ∀ x ∈ l, I64 x)
    (hK : Consts w) (h0 : 0 < w.heap.size) :
    Calls Tryd.prog 4 #[.string s, .slice A n c] w fun e W' => e = .returned (.bool true) ∧ Below w.heap.size w W' := by
  go_enter Tryd.func4, Tryd.ntmps4
  go_wp2_with fail
  refine (seed_any s w (by unfold maxLen at hs; omega)).mono ?_
  rintro E w1 ⟨t, rfl, ht, rfl⟩
  go_wp2_with fail
  refine (path_any A n c l w1 hl hI).mono ?_
  rintro E w2 ⟨v, L, rfl, hLI, hLl, hown, c2⟩
  obtain ⟨A', c', rfl, hnet⟩ := net_of_path ht hLI hLl hown (hK.below (c2.mono h0)) (Nat.lt_of_lt_of_le h0 c2.size)
  clear hown
  go_wp2_with fail
  refine (all_yes hnet 4 (givenE_zero (by omega) (by omega) (by omega))).mono ?_
  rintro E w6 ⟨v6, rfl, o6, b6⟩
  obtain ⟨g6, k6, rfl, hk6, -, r6⟩ := own_places1 (by omega) o6
  have c6 := below_next c2 b6
  have net6 := hnet.below b6
  clear o6
  have hfl := fun (x : Nat) (hx : x < 4) (k : Nat) => fwd_lt (b := 1) (rnd_lt t L 1) k (p := two (2 ^ 1) x) (two_lt (by show x < 4; exact hx))
  have HFL := Lib.hid hfl
  clear hfl
  go_wp2_with fail
  go_loopw [9] (fun v wr => ∃ x : Nat, x ≤ 4 ∧ v = .int .i64 (x : Int) ∧ Below w6.heap.size w6 wr) (fun v _ => (4 - intOf v).toNat)
  case atStart => exact ⟨0, by omega, rfl, Below.refl _ _⟩
  case round =>
    obtain ⟨x, hx, rfl, hb⟩ := hrel
    by_cases hlt : x < 4
    · have hxi : (x : Int) < 4 := by omega
      have hxq : (x : Int).tdiv 2 = ((two 2 x).1 : Int) := by rw [Int.tdiv_eq_ediv_of_nonneg (by omega)]; rfl
      have hxr : (x : Int) % 2 = ((two 2 x).2 : Int) := rfl
      obtain ⟨F, hF⟩ : ∃ F, F = fun k => fwd (rnd t L 2) k (two 2 x) := ⟨_, rfl⟩
      have F0 : two 2 x = F 0 := by rw [hF]; rfl
      have Fs : ∀ k, F (k + 1) = stp (rnd t L 2) k (F k) := by rw [hF]; exact fun k => rfl
      have FP : placeN t L 4 x = one 2 (F 4) := by rw [hF]; exact place4 t L hlt
      have FLt : ∀ k, (F k).1 < 2 ∧ (F k).2 < 2 := by rw [hF]; exact fun k => HFL.out x hlt k
      rw [F0] at hxq hxr
      have HXR := Lib.hid hxr
      clear hF F0 hxr
      have HFS := Lib.hid Fs
      have HFP := Lib.hid FP
      have HLt := Lib.hid FLt
      clear Fs FP FLt
      go_wp2_with fail
      clear hxq
      go_loopw [10, 11, 12] (fun a b r wr => ∃ k : Nat, k ≤ 4 ∧ r = .int .i64 (k : Int) ∧ a = .int .i64 ((F k).1 : Int) ∧ b = .int .i64 ((F k).2 : Int) ∧ Below w6.heap.size w6 wr) (fun _ _ r _ => (4 - intOf r).toNat)
      case atStart => exact ⟨0, by omega, rfl, by rw [show wrap64 ((F 0).1 : Int) = ((F 0).1 : Int) from by have := (HLt.out 0).1; unfold wrap64; omega], by rw [HXR.out], hb⟩
      case round =>
        clear hb
        obtain ⟨k, hk, rfl, rfl, rfl, hb⟩ := hrel
        by_cases hkl : k < 4
        · have hki : (k : Int) < 4 := by omega
          have hl1 := (HLt.out k).1
          have hl2 := (HLt.out k).2
          have hw := word_net (c := c') (net6.below hb) k (F k).2 (by omega) (by omega)
          have hwl := wordN_lt t L (65536 * (k : Int) + ((F k).2 : Int))
          have hst := HFS.out k
          have hr : rnd t L 2 k (F k).2 = wordN t L (65536 * (k : Int) + ((F k).2 : Int)) % 2 := rfl
          have h1 : (F (k + 1)).1 = (F k).2 := by rw [hst]; rfl
          have h2 : (F (k + 1)).2 = ((F k).1 + wordN t L (65536 * (k : Int) + ((F k).2 : Int)) % 2) % 2 := by
            rw [hst]
            show (F k).1 ^^^ rnd t L 2 k (F k).2 = _
            rw [hr, xor_bit hl1 (Nat.mod_lt _ (by omega))]
          clear hst hr
          generalize wordN t L (65536 * (k : Int) + ((F k).2 : Int)) = X at *
          have H1 := Lib.hid h1
          have H2 := Lib.hid h2
          have HW := Lib.hid hw
          clear h1 h2 hw
          generalize (F k).1 = p at *
          generalize (F k).2 = q at *
          go_wp2_with fail
          refine HW.out.mono ?_
          rintro E w7 ⟨rfl, b7⟩
          have hb7 := below_next hb b7
          go_wp2_with fail
          go_roundw
          case rel =>
            have v1 : Value.int .i64 ((k : Int) + 1) = .int .i64 ((k + 1 : Nat) : Int) := by go_num
            have v2 : Value.int .i64 (q : Int) = .int .i64 ((F (k + 1)).1 : Int) := by rw [H1.out]
            have v3 : Value.int .i64 (((p : Int) + (X : Int) % 2) % 2) = .int .i64 ((F (k + 1)).2 : Int) := by rw [H2.out]; go_num
            exact ⟨k + 1, by omega, v1, v2, v3, hb7⟩
          case measure => simp [intOf]; omega
        · obtain rfl : k = 4 := by omega
          have hd := (r6.below hb).place1 (i := x) hlt
          rw [HFP.out] at hd
          have hl1 := (HLt.out 4).1
          have hl2 := (HLt.out 4).2
          unfold one at hd
          have hcast : (((F 4).1 * 2 + (F 4).2 : Nat) : Int) = 2 * ((F 4).1 : Int) + ((F 4).2 : Int) := by omega
          rw [hcast] at hd
          clear hcast
          generalize (F 4).1 = p at *
          generalize (F 4).2 = q at *
          go_wp2_with fail
          go_roundw
          case rel => exact ⟨x + 1, by omega, by go_num, hb⟩
          case measure => simp [intOf]; omega
    · have hlv := lives_any wr (net6.below hb).consts (net6.below hb).pos
      go_wp2_with fail
      refine hlv.mono ?_
      rintro E w12 ⟨rfl, b12⟩
      go_wp2_with fail
      go_ret
      exact ⟨rfl, below_next (below_next c6 hb) b12⟩
end Go.Proofs.YtiajlglnefiemaaDoor
