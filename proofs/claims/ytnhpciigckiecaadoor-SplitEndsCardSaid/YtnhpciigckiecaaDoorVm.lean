/- The walk of the law SplitEnds. Conditions: the round constants lie in their variable; the list's numbers have 64 bits. -/
import Derived.Test.YtnhpciigckiecaaDoorVj
import Derived.Test.YtnhpciigckiecaaDoorVk
set_option linter.unusedSimpArgs false
set_option linter.unusedVariables false
namespace Go.Proofs.YtnhpciigckiecaaDoor
open Go.RowKit Go.Shelf Go

theorem rep_get (u : Int) {m j : Nat} (h : j < m) : (List.replicate m u)[j]?.getD 0 = u := by
  rw [List.getElem?_replicate, if_pos h]
  rfl
theorem seedOf_size (x : Int) : (seedOf x).size ≤ 32 := by
  unfold seedOf
  split
  · decide
  · split <;> decide
set_option maxRecDepth 100000 in
set_option maxHeartbeats 16000000 in
theorem splitEnds_any (A : Option Addr) (n c : Nat) (l : List Int) (w : World) (hl : Reads w w.heap.size 1 A n (ints l)) (hI : ∀ x ∈ l, I64 x) (hK : Consts w) (h0 : 0 < w.heap.size) :
    Calls Tryd.prog 3 #[.slice A n c] w fun E W' => E = .returned (.bool true) ∧ Below w.heap.size w W' := by
  have hr1 := rAt_lt l 1 13 (by omega)
  have hr2 := rAt_lt l 2 7 (by omega)
  have hr3 := rAt_lt l 3 12 (by omega)
  have hr4 := rAt_lt l 4 4 (by omega)
  have HM := Lib.hid (made_split A n c l w hl hI)
  have HL := Lib.hid hl
  have HI := Lib.hid hI
  have HK := Lib.hid hK
  clear hl hI hK
  go_enter Tryd.func3, Tryd.ntmps3
  go_wp2_with fail
  refine HM.out.mono ?_
  rintro E w1 ⟨x, P, q, d, p, T, m, lo, hi, rfl, hx0, hx1, hm, hlo, hhi, hq, hp, hrd, ht0, ht1, b1⟩
  have ok1 : Ok w w1 := b1
  have hs := seedOf_size x
  generalize seedOf x = s at *
  generalize rAt l 1 13 = r1 at *
  generalize rAt l 2 7 = r2 at *
  generalize rAt l 3 12 = r3 at *
  generalize rAt l 4 4 = r4 at *
  have hq6 : q ≤ 6 := by omega
  have hm12 : m ≤ 12 := by omega
  have hlb : -2 ≤ lo ∧ lo ≤ 4 := by omega
  have hhb : lo ≤ hi ∧ hi ≤ lo + 11 := by omega
  have hI0 : ∀ y ∈ p, I64 y := fun y hy => by have := hp y hy; unfold I64; omega
  have hnet : ∀ W, Ok w1 W → Net s P q p W := fun W hW => by
    have hr := hrd.below hW
    exact ⟨hr.more hW.size, hI0, by omega, by omega, (ok1.step hW).consts HK.out h0, (ok1.step hW).pos h0⟩
  have hmu : ∀ u : Int, -2 ≤ u → u ≤ 15 → -100000 ≤ (m : Int) * u ∧ (m : Int) * u ≤ 100000 := fun u h1 h2 => by
    have e1 : (m : Int) * (-2) ≤ (m : Int) * u := Int.mul_le_mul_of_nonneg_left h1 (by omega)
    have e2 : (m : Int) * u ≤ (m : Int) * 15 := Int.mul_le_mul_of_nonneg_left h2 (by omega)
    omega
  have hle : (m : Int) * lo ≤ (m : Int) * hi := Int.mul_le_mul_of_nonneg_left hhb.1 (by omega)
  have HA : Hid (∀ W, Ok w1 W → Calls Tryd.prog 5 #[spV s P q d ((m : Int) * lo) (m : Int) lo hi] W fun E W' => ∃ v, E = .returned (.tuple #[v, .int .i64 0]) ∧ W'.ownsRow W.heap.size 3 1 v m (ints (List.replicate m lo)) ∧ Below W.heap.size W W') := Lib.hid fun W hW => by
    have := all_any (c := d) (hnet W hW) (T := (m : Int) * lo) (lo := lo) (hi := hi) (m := m) ⟨hs, hq6, by omega, by omega, by omega, by omega, hhb.1, Int.le_refl _, hle⟩ (same_halved hs hq6 _ _ lo hi lo m (by omega) (by omega) hhb.1 (by omega) (.inl rfl)) ⟨by omega, rfl⟩
    rw [parts_same] at this
    exact this
  have HB : Hid (∀ W, Ok w1 W → Calls Tryd.prog 5 #[spV s P q d ((m : Int) * hi) (m : Int) lo hi] W fun E W' => ∃ v, E = .returned (.tuple #[v, .int .i64 0]) ∧ W'.ownsRow W.heap.size 3 1 v m (ints (List.replicate m hi)) ∧ Below W.heap.size W W') := Lib.hid fun W hW => by
    have := all_any (c := d) (hnet W hW) (T := (m : Int) * hi) (lo := lo) (hi := hi) (m := m) ⟨hs, hq6, by omega, by omega, by omega, by omega, hhb.1, hle, Int.le_refl _⟩ (same_halved hs hq6 _ _ lo hi hi m (by omega) (by omega) hhb.1 (by omega) (.inr rfl)) ⟨by omega, rfl⟩
    rw [parts_same] at this
    exact this
  have HP : Hid (∀ W t, Ok w1 W → lo ≤ t → t ≤ hi → Calls Tryd.prog 8 #[spV s P q d t 1 lo hi, .int .i64 0] W fun E W' => E = .returned (.tuple #[.int .i64 t, .int .i64 0]) ∧ Below W.heap.size W W') := Lib.hid fun W t hW h1 h2 => by
    have := part_any (c := d) (hnet W hW) (T := t) (lo := lo) (hi := hi) (m := 1) ⟨hs, hq6, by omega, by omega, by omega, by omega, hhb.1, by omega, by omega⟩ (one_halved t _ lo hi t (fun _ _ _ => 0)) ⟨rfl, rfl, rfl⟩ (fun a m t h => by unfold OneI at h; omega) 0 (by omega) (by omega)
    rw [desc_end _ _ _ _ _ _ (by omega)] at this
    exact this
  have q1 : IntKind.i64.wrap ((m : Int) * lo) = (m : Int) * lo := wrap_small (by have := hmu lo (by omega) (by omega); omega) (by have := hmu lo (by omega) (by omega); omega)
  have q2 : IntKind.i64.wrap ((m : Int) * hi) = (m : Int) * hi := wrap_small (by have := hmu hi (by omega) (by omega); omega) (by have := hmu hi (by omega) (by omega); omega)
  obtain ⟨X, hX⟩ : ∃ X, X = (m : Int) * lo := ⟨_, rfl⟩
  obtain ⟨Y, hY⟩ : ∃ Y, Y = (m : Int) * hi := ⟨_, rfl⟩
  rw [← hX] at HA
  rw [← hY] at HB
  replace q1 : IntKind.i64.wrap ((m : Int) * lo) = X := by rw [hX]; exact q1
  replace q2 : IntKind.i64.wrap ((m : Int) * hi) = Y := by rw [hY]; exact q2
  have q1w : RowKit.wrap64 ((m : Int) * lo) = X := (IntWalk.i64_left _).symm.trans q1
  have q2w : RowKit.wrap64 ((m : Int) * hi) = Y := (IntWalk.i64_left _).symm.trans q2
  have HO := Lib.hid (fun T N W => own_any s P q d T N lo hi W)
  have HV := Lib.hid (fun W (hW : Ok w1 W) => splitLives_any W ((ok1.step hW).consts HK.out h0) ((ok1.step hW).pos h0))
  have HAT : Hid (∀ W, Ok w1 W → Calls Tryd.prog 7 #[.slice A n c, .int .i64 9, .int .i64 (hi - lo + 1)] W fun e w' => e = .returned (.int .i64 (rAt l 9 (hi - lo + 1))) ∧ w' = W) := Lib.hid fun W hW =>
    rAt_any A n c _ l 9 (hi - lo + 1) W (HL.out.below (ok1.step hW)) HI.out (by omega) ⟨by omega, by omega⟩
  have HBN := Lib.hid (And.intro hlb (And.intro hhb hm12))
  clear hmu hle hX hY hp hrd hnet hI0 hs hx0 hx1 hm hlo hhi hq hr1 hr2 hr3 hr4 ht0 ht1 hlb hhb hq6 b1
  have z1 : (w1.alloc (.cells (spC s P q d T (m : Int) lo hi) 24)).heap.size = w1.heap.size + 1 := by simp
  have k3 := Blk.new w1 24 (spC s P q d T (m : Int) lo hi)
  have ok3 := (Ok.refl w1).alloc (.cells (spC s P q d T (m : Int) lo hi) 24)
  have k4 : Blk ((w1.alloc (.cells (spC s P q d T (m : Int) lo hi) 24)).alloc (.cells (spC s P q d T (m : Int) lo hi) 24)) (w1.heap.size + 1) 24 (spC s P q d T (m : Int) lo hi) := Blk.new' z1.symm
  have z2 : ((w1.alloc (.cells (spC s P q d T (m : Int) lo hi) 24)).alloc (.cells (spC s P q d T (m : Int) lo hi) 24)).heap.size = w1.heap.size + 2 := by simp
  replace k3 := k3.alloc (.cells (spC s P q d T (m : Int) lo hi) 24)
  replace ok3 := ok3.alloc (.cells (spC s P q d T (m : Int) lo hi) 24)
  go_upto_region 3 with fail
  generalize (w1.alloc (.cells (spC s P q d T (m : Int) lo hi) 24)).alloc (.cells (spC s P q d T (m : Int) lo hi) 24) = w2 at *
  clear z1
  have a3 : w2.cell? ⟨w1.heap.size, 3, none⟩ = some (.int .i64 (m : Int)) := k3.at_ rfl
  have a4 : w2.cell? ⟨w1.heap.size, 4, none⟩ = some (.int .i64 lo) := k3.at_ rfl
  have b2 : w2.cell? ⟨w1.heap.size + 1, 2, none⟩ = some (.int .i64 T) := k4.at_ rfl
  have f2 := k4.frozen 2
  go_upto_region 4 with fail
  have k4' : Blk (w2.setCell ⟨w1.heap.size + 1, 2, none⟩ (.int .i64 X)) (w1.heap.size + 1) 24 (spC s P q d X (m : Int) lo hi) := k4.set_ 2 (.int .i64 X)
  have k3' := k3.far (p := ⟨w1.heap.size + 1, 2, none⟩) (by simp) (.int .i64 X)
  have ok3' : Ok w1 (w2.setCell ⟨w1.heap.size + 1, 2, none⟩ (.int .i64 X)) := (show Below w1.heap.size w1 w2 from ok3).setCell (Nat.le_succ _) _
  have z3 : (w2.setCell ⟨w1.heap.size + 1, 2, none⟩ (.int .i64 X)).heap.size = w1.heap.size + 2 := by rw [← z2]; simp
  clear k4 k3 ok3 a3 a4 b2 f2 z2
  generalize w2.setCell ⟨w1.heap.size + 1, 2, none⟩ (.int .i64 X) = w3 at *
  have a0 : w3.cell? ⟨w1.heap.size, 0, none⟩ = some (.string s) := k3'.at_ rfl
  have a1 : w3.cell? ⟨w1.heap.size, 1, none⟩ = some (.slice P q d) := k3'.at_ rfl
  have a2 : w3.cell? ⟨w1.heap.size, 2, none⟩ = some (.int .i64 T) := k3'.at_ rfl
  have a3 : w3.cell? ⟨w1.heap.size, 3, none⟩ = some (.int .i64 (m : Int)) := k3'.at_ rfl
  have a4 : w3.cell? ⟨w1.heap.size, 4, none⟩ = some (.int .i64 lo) := k3'.at_ rfl
  have a5 : w3.cell? ⟨w1.heap.size, 5, none⟩ = some (.int .i64 hi) := k3'.at_ rfl
  have k5 : Blk (w3.alloc (.cells (spC s P q d T (m : Int) lo hi) 24)) (w1.heap.size + 2) 24 (spC s P q d T (m : Int) lo hi) := Blk.new' z3.symm
  have k4 := k4'.alloc (.cells (spC s P q d T (m : Int) lo hi) 24)
  have k3 := k3'.alloc (.cells (spC s P q d T (m : Int) lo hi) 24)
  have ok4 := ok3'.alloc (.cells (spC s P q d T (m : Int) lo hi) 24)
  go_upto_region 5 with fail
  clear z3 k4' k3' ok3' a0 a1 a2 a3 a4 a5
  generalize w3.alloc (.cells (spC s P q d T (m : Int) lo hi) 24) = w4 at *
  have a3 : w4.cell? ⟨w1.heap.size, 3, none⟩ = some (.int .i64 (m : Int)) := k3.at_ rfl
  have a5 : w4.cell? ⟨w1.heap.size, 5, none⟩ = some (.int .i64 hi) := k3.at_ rfl
  have b2 : w4.cell? ⟨w1.heap.size + 2, 2, none⟩ = some (.int .i64 T) := k5.at_ rfl
  have f2 := k5.frozen 2
  go_upto_region 6 with fail
  have k5' : Blk (w4.setCell ⟨w1.heap.size + 2, 2, none⟩ (.int .i64 Y)) (w1.heap.size + 2) 24 (spC s P q d Y (m : Int) lo hi) := k5.set_ 2 (.int .i64 Y)
  have k4' := k4.far (p := ⟨w1.heap.size + 2, 2, none⟩) (by simp) (.int .i64 Y)
  have k3' := k3.far (p := ⟨w1.heap.size + 2, 2, none⟩) (by simp) (.int .i64 Y)
  have ok5 : Ok w1 (w4.setCell ⟨w1.heap.size + 2, 2, none⟩ (.int .i64 Y)) := (show Below w1.heap.size w1 w4 from ok4).setCell (Nat.le_add_right _ 2) _
  clear k5 k4 k3 ok4 a3 a5 b2 f2
  generalize w4.setCell ⟨w1.heap.size + 2, 2, none⟩ (.int .i64 Y) = w5 at *
  have b0 : w5.cell? ⟨w1.heap.size + 1, 0, none⟩ = some (.string s) := k4'.at_ rfl
  have b1 : w5.cell? ⟨w1.heap.size + 1, 1, none⟩ = some (.slice P q d) := k4'.at_ rfl
  have b2 : w5.cell? ⟨w1.heap.size + 1, 2, none⟩ = some (.int .i64 X) := k4'.at_ rfl
  have b3 : w5.cell? ⟨w1.heap.size + 1, 3, none⟩ = some (.int .i64 (m : Int)) := k4'.at_ rfl
  have b4 : w5.cell? ⟨w1.heap.size + 1, 4, none⟩ = some (.int .i64 lo) := k4'.at_ rfl
  have b5 : w5.cell? ⟨w1.heap.size + 1, 5, none⟩ = some (.int .i64 hi) := k4'.at_ rfl
  go_wp2_with fail
  refine (HO.out X (m : Int) _).mono ?_
  rintro E w6 ⟨rfl, b6⟩
  have ok6 := ok5.step b6
  have j3 := k3'.thru b6
  have j5 := k5'.thru b6
  clear b6 k3' k5' k4' ok5 b0 b1 b2 b3 b4 b5
  go_wp2_with fail
  refine (HA.out _ ok6).mono ?_
  rintro E w7 ⟨va, rfl, oa, b7⟩
  have ok7 := ok6.step b7
  have k3 := j3.thru b7
  have k5 := j5.thru b7
  obtain ⟨A1, c1, rfl, -⟩ := own_reads1 oa
  have hb6 := ok6.size
  clear b7 j3 j5 ok6
  have b0 : w7.cell? ⟨w1.heap.size + 2, 0, none⟩ = some (.string s) := k5.at_ rfl
  have b1 : w7.cell? ⟨w1.heap.size + 2, 1, none⟩ = some (.slice P q d) := k5.at_ rfl
  have b2 : w7.cell? ⟨w1.heap.size + 2, 2, none⟩ = some (.int .i64 Y) := k5.at_ rfl
  have b3 : w7.cell? ⟨w1.heap.size + 2, 3, none⟩ = some (.int .i64 (m : Int)) := k5.at_ rfl
  have b4 : w7.cell? ⟨w1.heap.size + 2, 4, none⟩ = some (.int .i64 lo) := k5.at_ rfl
  have b5 : w7.cell? ⟨w1.heap.size + 2, 5, none⟩ = some (.int .i64 hi) := k5.at_ rfl
  go_wp2_with fail
  refine (HO.out Y (m : Int) _).mono ?_
  rintro E w8 ⟨rfl, b8⟩
  have ok8 := ok7.step b8
  have j3 := k3.thru b8
  have oa8 := own_below oa b8
  clear b8 k3 k5 ok7 oa b0 b1 b2 b3 b4 b5
  go_wp2_with fail
  refine (HB.out _ ok8).mono ?_
  rintro E w9 ⟨vb, rfl, ob, b9⟩
  have ok9 := ok8.step b9
  have k3 := j3.thru b9
  have oa9 := own_below oa8 b9
  obtain ⟨A2, c2, rfl, -⟩ := own_reads1 ob
  have HR1 := Lib.hid (Reads.of_own oa9)
  have HR2 := Lib.hid (Reads.of_own ob)
  clear b9 j3 ok8 oa8 oa9 ob hb6
  have a3 : w9.cell? ⟨w1.heap.size, 3, none⟩ = some (.int .i64 (m : Int)) := k3.at_ rfl
  have g1 : ((m : Int) != (m : Int)) = false := by simp
  go_wp2_with fail
  go_loopw [10] (fun i wr => ∃ k : Nat, k ≤ m ∧ i = .int .i64 (k : Int) ∧ ∃ q, wr = w9.drewN q) (fun i _ => m - (intOf i).toNat)
  case atStart => exact ⟨0, by omega, rfl, 0, rfl⟩
  case round =>
    obtain ⟨k, hk, rfl, dq, rfl⟩ := hrel
    have k3q := k3.drewN dq
    have a3q : (w9.drewN dq).cell? ⟨w1.heap.size, 3, none⟩ = some (.int .i64 (m : Int)) := k3q.at_ rfl
    have a4q : (w9.drewN dq).cell? ⟨w1.heap.size, 4, none⟩ = some (.int .i64 lo) := k3q.at_ rfl
    have a5q : (w9.drewN dq).cell? ⟨w1.heap.size, 5, none⟩ = some (.int .i64 hi) := k3q.at_ rfl
    by_cases hlt : k < m
    · have hki : (k : Int) < (m : Int) := by omega
      obtain ⟨ad1, rfl, -, -, hc1⟩ := HR1.out.int_at hlt
      obtain ⟨ad2, rfl, -, -, hc2⟩ := HR2.out.int_at hlt
      rw [rep_get _ hlt] at hc1 hc2
      have hc1' : (w9.drewN dq).cell? (ad1.add k) = some (.int .i64 lo) := hc1
      have hc2' : (w9.drewN dq).cell? (ad2.add k) = some (.int .i64 hi) := hc2
      have g2 : (lo != lo) = false := by simp
      have g3 : (hi != hi) = false := by simp
      have HC := Lib.hid (And.intro hc1' hc2')
      go_upto_region 13 with fail
      have a4r : w9.cell? ⟨w1.heap.size, 4, none⟩ = some (.int .i64 lo) := k3.at_ rfl
      have a5r : w9.cell? ⟨w1.heap.size, 5, none⟩ = some (.int .i64 hi) := k3.at_ rfl
      go_quiet (fail)
      go_wp2_with fail
      go_roundw
      case rel => exact ⟨k + 1, by omega, by go_num, _, rfl⟩
      case measure => simp only [intOf]; omega
    · have hki : ¬ (k : Int) < (m : Int) := by omega
      have okq : Ok w1 (w9.drewN dq) := Ok.drewN ok9 dq
      have hgn : w1.heap.size < (w9.drewN dq).heap.size := k3q.lt
      generalize w9.drewN dq = wq at *
      have a0 : wq.cell? ⟨w1.heap.size, 0, none⟩ = some (.string s) := k3q.at_ rfl
      have a1 : wq.cell? ⟨w1.heap.size, 1, none⟩ = some (.slice P q d) := k3q.at_ rfl
      have a2 : wq.cell? ⟨w1.heap.size, 2, none⟩ = some (.int .i64 T) := k3q.at_ rfl
      have a3 := a3q
      have a4 := a4q
      have a5 := a5q
      have kn := Blk.new wq 24 (spC s P q d T (m : Int) lo hi)
      have ko := k3q.alloc (.cells (spC s P q d T (m : Int) lo hi) 24)
      have okn := okq.alloc (.cells (spC s P q d T (m : Int) lo hi) 24)
      go_upto_region 16 with fail
      clear a0 a1 a2 a3 a4 a5 a3q a4q a5q k3q
      generalize wq.alloc (.cells (spC s P q d T (m : Int) lo hi) 24) = wa at *
      have hgq := hgn
      generalize wq.heap.size = g at *
      have b3 : wa.cell? ⟨g, 3, none⟩ = some (.int .i64 (m : Int)) := kn.at_ rfl
      have f3 := kn.frozen 3
      go_upto_region 17 with fail
      have kz : Blk (wa.setCell ⟨g, 3, none⟩ (.int .i64 1)) g 24 (spC s P q d T 1 lo hi) := kn.set_ 3 (.int .i64 1)
      have ky := ko.far (p := ⟨g, 3, none⟩) (by simp; omega) (.int .i64 1)
      have okz : Ok w1 (wa.setCell ⟨g, 3, none⟩ (.int .i64 1)) := (show Below w1.heap.size w1 wa from okn).setCell (by simp; omega) _
      clear b3 f3 kn ko okn
      generalize wa.setCell ⟨g, 3, none⟩ (.int .i64 1) = wz at *
      have e4 : wz.drew.cell? ⟨w1.heap.size, 4, none⟩ = some (.int .i64 lo) := ky.drew.at_ rfl
      have e5 : wz.drew.cell? ⟨w1.heap.size, 5, none⟩ = some (.int .i64 hi) := ky.drew.at_ rfl
      have e2 : wz.drew.cell? ⟨g, 2, none⟩ = some (.int .i64 T) := kz.drew.at_ rfl
      have f2 : wz.drew.frozen? ⟨g, 2, none⟩ = false := kz.drew.frozen 2
      have hr9 := rAt_lt l 9 (hi - lo + 1) (by have := HBN.out; omega)
      generalize rAt l 9 (hi - lo + 1) = r9 at *
      have w3 : IntKind.i64.wrap (hi - lo) = hi - lo := wrap_small (by have := HBN.out; omega) (by have := HBN.out; omega)
      have w4 : IntKind.i64.wrap (hi - lo + 1) = hi - lo + 1 := wrap_small (by have := HBN.out; omega) (by have := HBN.out; omega)
      have w5 : IntKind.i64.wrap (lo + r9) = lo + r9 := wrap_small (by have := HBN.out; omega) (by have := HBN.out; omega)
      refine wp_region_but (fun W => Ok w1 W ∧ W.cell? ⟨w1.heap.size, 4, none⟩ = some (.int .i64 lo) ∧ W.cell? ⟨w1.heap.size, 5, none⟩ = some (.int .i64 hi)) [12] (by kernel_rfl) ⟨okz.drew, e4, e5⟩ fun hS0 => ?_
      refine wpBut_pure 0 (v := .pointer (some ⟨w1.heap.size, 4, none⟩)) rfl (by kernel_rfl) (fun _ _ _ h => h) ⟨by rfl, fun W => ?_⟩ (fun _ => hS0) ?_
      · go_simp
      simp only [Act.put, List.setIfInBounds_toArray, List.set_cons_zero, List.set_cons_succ]
      refine wpBut_take 1 (v := .int .i64 lo) rfl (by kernel_rfl) (fun _ _ _ h => h) ⟨by rfl, fun W hW => ?_⟩ hS0 ?_
      · obtain ⟨s0, s4, s5⟩ := hW
        go_simp
      simp only [Act.put, List.setIfInBounds_toArray, List.set_cons_zero, List.set_cons_succ]
      refine wpBut_pure 2 (v := .slice A n c) rfl (by kernel_rfl) (fun _ _ _ h => h) ⟨by rfl, fun W => ?_⟩ (fun _ => hS0) ?_
      · go_simp
      simp only [Act.put, List.setIfInBounds_toArray, List.set_cons_zero, List.set_cons_succ]
      refine wpBut_pure 3 (v := .pointer (some ⟨w1.heap.size, 5, none⟩)) rfl (by kernel_rfl) (fun _ _ _ h => h) ⟨by rfl, fun W => ?_⟩ (fun _ => hS0) ?_
      · go_simp
      simp only [Act.put, List.setIfInBounds_toArray, List.set_cons_zero, List.set_cons_succ]
      refine wpBut_take 4 (v := .int .i64 hi) rfl (by kernel_rfl) (fun _ _ _ h => h) ⟨by rfl, fun W hW => ?_⟩ hS0 ?_
      · obtain ⟨s0, s4, s5⟩ := hW
        go_simp
      simp only [Act.put, List.setIfInBounds_toArray, List.set_cons_zero, List.set_cons_succ]
      refine wpBut_pure 5 (v := .pointer (some ⟨w1.heap.size, 4, none⟩)) rfl (by kernel_rfl) (fun _ _ _ h => h) ⟨by rfl, fun W => ?_⟩ (fun _ => hS0) ?_
      · go_simp
      simp only [Act.put, List.setIfInBounds_toArray, List.set_cons_zero, List.set_cons_succ]
      refine wpBut_take 6 (v := .int .i64 lo) rfl (by kernel_rfl) (fun _ _ _ h => h) ⟨by rfl, fun W hW => ?_⟩ hS0 ?_
      · obtain ⟨s0, s4, s5⟩ := hW
        go_simp
      simp only [Act.put, List.setIfInBounds_toArray, List.set_cons_zero, List.set_cons_succ]
      refine wpBut_pure 7 (v := .int .i64 (hi - lo)) rfl (by kernel_rfl) (fun _ _ _ h => h) ⟨by rfl, fun W => ?_⟩ (fun _ => hS0) ?_
      · go_simp
      simp only [Act.put, List.setIfInBounds_toArray, List.set_cons_zero, List.set_cons_succ]
      refine wpBut_pure 8 (v := .int .i64 (hi - lo + 1)) rfl (by kernel_rfl) (fun _ _ _ h => h) ⟨by rfl, fun W => ?_⟩ (fun _ => hS0) ?_
      · go_simp
      simp only [Act.put, List.setIfInBounds_toArray, List.set_cons_zero, List.set_cons_succ]
      refine wpBut_call 9 (v := .int .i64 r9) rfl (by kernel_rfl) (fun _ _ _ h => h) ⟨by rfl, fun W hW => ⟨7, _, ?_, HAT.out W hW.1⟩⟩ hS0 ?_
      · go_simp
      simp only [Act.put, List.setIfInBounds_toArray, List.set_cons_zero, List.set_cons_succ]
      refine wpBut_pure 10 (v := .int .i64 (lo + r9)) rfl (by kernel_rfl) (fun _ _ _ h => h) ⟨by rfl, fun W => ?_⟩ (fun _ => hS0) ?_
      · go_simp
      simp only [Act.put, List.setIfInBounds_toArray, List.set_cons_zero, List.set_cons_succ]
      refine wpBut_pure 11 (v := .pointer (some ⟨g, 2, none⟩)) rfl (by kernel_rfl) (fun _ _ _ h => h) ⟨by rfl, fun W => ?_⟩ (fun _ => hS0) ?_
      · go_simp
      simp only [Act.put, List.setIfInBounds_toArray, List.set_cons_zero, List.set_cons_succ]
      refine wpBut_seq 12 (g := 0) (by decide) (by decide) (by rfl) (by kernel_rfl) ?_
      simp only [List.drop_succ_cons, List.drop_zero]
      go_upto_region 18 with fail
      have kf : Blk (wz.setCell ⟨g, 2, none⟩ (.int .i64 (lo + r9))).drew g 24 (spC s P q d (lo + r9) 1 lo hi) := (kz.set_ 2 (.int .i64 (lo + r9))).drew
      have okf : Ok w1 (wz.setCell ⟨g, 2, none⟩ (.int .i64 (lo + r9))).drew := Ok.drew ((show Below w1.heap.size w1 wz from okz).setCell (by simp; omega) _)
      clear hS0 e2 e4 e5 f2 ky kz okz
      generalize (wz.setCell ⟨g, 2, none⟩ (.int .i64 (lo + r9))).drew = wf at *
      have a0 : wf.cell? ⟨g, 0, none⟩ = some (.string s) := kf.at_ rfl
      have a1 : wf.cell? ⟨g, 1, none⟩ = some (.slice P q d) := kf.at_ rfl
      have a2 : wf.cell? ⟨g, 2, none⟩ = some (.int .i64 (lo + r9)) := kf.at_ rfl
      have a3 : wf.cell? ⟨g, 3, none⟩ = some (.int .i64 1) := kf.at_ rfl
      have a4 : wf.cell? ⟨g, 4, none⟩ = some (.int .i64 lo) := kf.at_ rfl
      have a5 : wf.cell? ⟨g, 5, none⟩ = some (.int .i64 hi) := kf.at_ rfl
      go_wp2_with fail
      refine (HO.out (lo + r9) 1 _).mono ?_
      rintro E v1 ⟨rfl, c1⟩
      have okv := okf.step c1
      have kv := kf.thru c1
      clear c1 kf okf a0 a1 a2 a3 a4 a5
      go_wp2_with fail
      refine (HP.out _ (lo + r9) okv (by omega) (by omega)).mono ?_
      rintro E v2 ⟨rfl, c2⟩
      have okv2 := okv.step c2
      have kv2 := kv.thru c2
      have a2 : v2.cell? ⟨g, 2, none⟩ = some (.int .i64 (lo + r9)) := kv2.at_ rfl
      have g8 : (lo + r9 == lo + r9) = true := by simp
      go_wp2_with fail
      refine (HV.out _ okv2).mono ?_
      rintro E v3 ⟨rfl, c3⟩
      have okv3 := ok1.step (okv2.step c3)
      go_wp2_with fail
      go_ret
      exact ⟨rfl, okv3⟩
theorem splitEnds_walk (A : Option Addr) (n c : Nat) (l : List Int) (w : World) (_ : n ≤ c) (_ : n ≤ maxLen) (hl : Reads w w.heap.size 1 A n (ints l)) (hI : ∀ x ∈ l, I64 x) (hK : Consts w) (h0 : 0 < w.heap.size) :
    Calls Tryd.prog 3 #[.slice A n c] w fun E W' => E = .returned (.bool true) ∧ Below w.heap.size w W' := splitEnds_any A n c l w hl hI hK h0
end Go.Proofs.YtnhpciigckiecaaDoor
