/- The walk of the law SplitFound. Conditions: the round constants lie in their variable; the list's numbers and the other one have 64 bits. -/
import Derived.Test.YtkchalnohkfhbaaDoorVs
import Derived.Test.YtkchalnohkfhbaaDoorVq
import Derived.Test.YtkchalnohkfhbaaDoorVr
set_option linter.unusedSimpArgs false
set_option linter.unusedVariables false
namespace Go.Proofs.YtkchalnohkfhbaaDoor
open Go.RowKit Go.Shelf Go

set_option maxRecDepth 100000 in
set_option maxHeartbeats 16000000 in
theorem splitFound_any (A : Option Addr) (n c : Nat) (l : List Int) (k : Int) (w : World) (hl : Reads w w.heap.size 1 A n (ints l)) (hI : ∀ x ∈ l, I64 x) (hk : I64 k) (hK : Consts w) (h0 : 0 < w.heap.size) :
    Calls Tryd.prog 4 #[.slice A n c, .int .i64 k] w fun E W' => E = .returned (.bool true) ∧ Below w.heap.size w W' := by
  have hr1 := rAt_lt l 1 13 (by omega)
  have hr2 := rAt_lt l 2 7 (by omega)
  have hr3 := rAt_lt l 3 12 (by omega)
  have hr4 := rAt_lt l 4 4 (by omega)
  have HM := Lib.hid (made_split A n c l w hl hI)
  have HG := Lib.hid (fun W (hW : Ok w W) => great_any A n c l W ((hl.below hW).more hW.size) hI)
  have HK := Lib.hid hK
  have HAR : Hid (∀ W (M : Int), 1 ≤ M → M ≤ 1099511627776 → Calls Tryd.prog 13 #[.int .i64 k, .int .i64 M] W fun e w' => e = .returned (.int .i64 (around k M)) ∧ w' = W) := Lib.hid fun W M _ _ => around_any k M W hk.1 hk.2 (by omega) (by omega)
  clear hl hI hK hk
  go_enter Tryd.func4, Tryd.ntmps4
  go_wp2_with fail
  refine HM.out.mono ?_
  rintro E w1 ⟨x, P, q, d, p, T, m, lo, hi, rfl, hx0, hx1, hm, hlo, hhi, hq, hp, hrd, ht0, ht1, b1⟩
  have ok1 : Ok w w1 := b1
  generalize rAt l 1 13 = r1 at *
  generalize rAt l 2 7 = r2 at *
  generalize rAt l 3 12 = r3 at *
  generalize rAt l 4 4 = r4 at *
  have hq3 : q ≤ 3 := by omega
  have hpl : p.length = q := hrd.int_len
  have hm12 : m ≤ 12 := by omega
  have hs : (seedOf x).size ≤ 32 := seedOf_le x
  have hI0 : ∀ y ∈ p, I64 y := fun y hy => by have := hp y hy; unfold I64; omega
  have hnet : ∀ W, Ok w1 W → Net (seedOf x) P q p W := fun W hW => by
    have hr := hrd.below hW
    exact ⟨hr.more hW.size, hI0, by omega, by omega, (ok1.step hW).consts HK.out h0, (ok1.step hW).pos h0⟩
  obtain ⟨Z, hZ⟩ : ∃ Z : Int, Z = hi - lo := ⟨_, rfl⟩
  obtain ⟨X, hX⟩ : ∃ X : Int, X = (m : Int) * lo := ⟨_, rfl⟩
  obtain ⟨Y, hY⟩ : ∃ Y : Int, Y = T - X := ⟨_, rfl⟩
  have hZb : 0 ≤ Z ∧ Z ≤ 11 := by omega
  have hXb : -24 ≤ X ∧ X ≤ 48 := by
    rw [hX]
    have e1 : (m : Int) * (-2) ≤ (m : Int) * lo := Int.mul_le_mul_of_nonneg_left (by omega) (by omega)
    have e2 : (m : Int) * lo ≤ (m : Int) * 4 := Int.mul_le_mul_of_nonneg_left (by omega) (by omega)
    omega
  have y0 : (m : Int) * 0 ≤ Y := by omega
  have y1 : Y ≤ (m : Int) * Z := by
    rw [hZ, Int.mul_sub]
    omega
  have hYb : 0 ≤ Y ∧ Y ≤ 132 := by
    have e1 : (m : Int) * Z ≤ (m : Int) * 11 := Int.mul_le_mul_of_nonneg_left (by omega) (by omega)
    omega
  have hTb : -24 ≤ T ∧ T ≤ 180 := by omega
  have q1 : IntKind.i64.wrap (hi - lo) = Z := by rw [hZ]; exact wrap_small (by omega) (by omega)
  have q2 : IntKind.i64.wrap ((m : Int) * lo) = X := by rw [← hX]; exact wrap_small (by omega) (by omega)
  have q2w : RowKit.wrap64 ((m : Int) * lo) = X := (IntWalk.i64_left _).symm.trans q2
  have q3 : IntKind.i64.wrap (T - X) = Y := by rw [← hY]; exact wrap_small (by omega) (by omega)
  obtain ⟨XS, hXS⟩ : ∃ XS, XS = parts (leftV (seedOf x) p 0 Z) 0 m Y := ⟨_, rfl⟩
  have hXL : XS.length = m := by rw [hXS]; exact parts_len _ m 0 Y
  have hXB : ∀ y ∈ XS, 0 ≤ y ∧ y ≤ Z := by rw [hXS]; exact parts_bound hZb.1 m 0 Y y0 y1
  have hX0 : ∀ y ∈ XS, 0 ≤ y := fun y hy => (hXB y hy).1
  have hso : SOk (seedOf x) q Y (m : Int) 0 Z := ⟨hs, by omega, by omega, by omega, by omega, by omega, hZb.1, y0, y1⟩
  have hha := made_halved (P := P) (d := d) hx0 hx1 hq3 (by omega) hp Y (m : Int) 0 Z (by omega) hZb.1 (by omega) (by omega)
  have hro : MadeI 0 Z 0 m Y := made_root hm12 y0 y1
  have hsum : bef XS m = Y := by
    by_cases h1 : 1 ≤ m
    · unfold bef
      rw [List.take_of_length_le (by omega), hXS]
      exact parts_sum _ m 0 Y h1
    · have e0 : m = 0 := by omega
      have : XS = [] := List.length_eq_zero_iff.1 (by omega)
      rw [this]
      subst e0
      simp at y0 y1
      show (0 : Int) = Y
      omega
  have HA : Hid (∀ W, Ok w1 W → Calls Tryd.prog 8 #[spV (seedOf x) P q d Y (m : Int) 0 Z] W fun E W' => ∃ v, E = .returned (.tuple #[v, .int .i64 0]) ∧ W'.ownsRow W.heap.size 3 1 v m (ints XS) ∧ Below W.heap.size W W') := Lib.hid fun W hW => by
    rw [hXS]
    exact all_any (c := d) (hnet W hW) hso hha hro
  have HFI : Hid (∀ W (j y : Nat), Ok w1 W → j < m → (y : Int) < at_ XS j → Calls Tryd.prog 15 #[spV (seedOf x) P q d Y (m : Int) 0 Z, .int .i64 (bef XS j + (y : Int))] W fun E W' => E = .returned (.tuple #[.int .i64 (j : Int), .int .i64 (y : Int), .int .i64 0]) ∧ Below W.heap.size W W') := Lib.hid fun W j y hW hj hy => by
    have b0 := bef_mono hX0 (i := 0) (j := j) (by omega) (by omega)
    rw [bef_zero] at b0
    have b1 := bef_mono hX0 (i := j + 1) (j := m) (by omega) (by omega)
    rw [bef_next XS j (by omega), hsum] at b1
    obtain ⟨i, e1, e2, e3, e4⟩ := find_at (hnet W hW) hso hha hro (fun a m t h => madeI_bound (by omega) (by omega) h) (by omega) (by rw [← hXS]; exact hX0) (bef XS j + (y : Int)) (by omega) (by omega) (by omega)
    rw [← hXS] at e2 e3 e4
    have hij : i = j := bef_one hX0 (by omega) (by omega) e2 e3 (by omega) (by omega)
    subst hij
    rw [show bef XS i + (y : Int) - bef XS i = (y : Int) by omega] at e4
    exact e4
  have HF : Hid (∀ j : Nat, j < m → bef XS (j + 1) = bef XS j + at_ XS j ∧ 0 ≤ at_ XS j ∧ at_ XS j ≤ 11 ∧ 0 ≤ bef XS j ∧ bef XS j ≤ 1000 ∧ XS[j]?.getD 0 = at_ XS j) := Lib.hid fun j hj => by
    have h1 := bef_bound hXB j (by omega)
    have h2 := hXB _ (atp_mem (L := XS) (j := j) (by omega))
    have e2 : (j : Int) * Z ≤ (j : Int) * 11 := Int.mul_le_mul_of_nonneg_left (by omega) (by omega)
    exact ⟨bef_next XS j (by omega), h2.1, by omega, by omega, by omega, rfl⟩
  have HS := Lib.hid hsum
  have HO := Lib.hid (fun W => own_any (seedOf x) P q d Y (m : Int) 0 Z W)
  have HV := Lib.hid (fun W (hW : Ok w1 W) => splitLives_any W ((ok1.step hW).consts HK.out h0) ((ok1.step hW).pos h0))
  have HN : Hid (∀ W, Ok w1 W → Net ⟨#[103]⟩ none 0 [] W) := Lib.hid fun W hW => net_none (by decide) ((ok1.step hW).consts HK.out h0) ((ok1.step hW).pos h0)
  have hb0 : bef XS 0 = 0 := bef_zero XS
  generalize seedOf x = s at *
  clear hsum hX0 hZ hX hY hXS hXL hXB hp hpl hrd hnet hI0 hs hx0 hx1 hm hlo hhi hq hr1 hr2 hr3 hr4 ht0 ht1 hq3 b1 hso hha hro hTb hYb hXb hZb y0 y1
  have k3 := Blk.new w1 24 (spC s P q d T (m : Int) lo hi)
  have ok3 := (Ok.refl w1).alloc (.cells (spC s P q d T (m : Int) lo hi) 24)
  go_upto_region 2 with fail
  generalize w1.alloc (.cells (spC s P q d T (m : Int) lo hi) 24) = w2 at *
  have x2 : w2.cell? ⟨w1.heap.size, 2, none⟩ = some (.int .i64 T) := k3.at_ rfl
  have x3 : w2.cell? ⟨w1.heap.size, 3, none⟩ = some (.int .i64 (m : Int)) := k3.at_ rfl
  have x4 : w2.cell? ⟨w1.heap.size, 4, none⟩ = some (.int .i64 lo) := k3.at_ rfl
  have x5 : w2.cell? ⟨w1.heap.size, 5, none⟩ = some (.int .i64 hi) := k3.at_ rfl
  have f4 := k3.frozen 4
  have f5 := k3.frozen 5
  have f2 := k3.frozen 2
  go_upto_region 5 with fail
  have k4 : Blk (((w2.setCell ⟨w1.heap.size, 5, none⟩ (.int .i64 Z)).setCell ⟨w1.heap.size, 2, none⟩ (.int .i64 Y)).setCell ⟨w1.heap.size, 4, none⟩ (.int .i64 0)) w1.heap.size 24 (spC s P q d Y (m : Int) 0 Z) := ((k3.set_ 5 (.int .i64 Z)).set_ 2 (.int .i64 Y)).set_ 4 (.int .i64 0)
  have ok4 : Ok w1 (((w2.setCell ⟨w1.heap.size, 5, none⟩ (.int .i64 Z)).setCell ⟨w1.heap.size, 2, none⟩ (.int .i64 Y)).setCell ⟨w1.heap.size, 4, none⟩ (.int .i64 0)) := (((show Below w1.heap.size w1 w2 from ok3).setCell (Nat.le_refl _) _).setCell (Nat.le_refl _) _).setCell (Nat.le_refl _) _
  clear k3 ok3 x2 x3 x4 x5 f2 f4 f5 q1 q2 q2w q3
  generalize ((w2.setCell ⟨w1.heap.size, 5, none⟩ (.int .i64 Z)).setCell ⟨w1.heap.size, 2, none⟩ (.int .i64 Y)).setCell ⟨w1.heap.size, 4, none⟩ (.int .i64 0) = w3 at *
  have x0 : w3.cell? ⟨w1.heap.size, 0, none⟩ = some (.string s) := k4.at_ rfl
  have x1 : w3.cell? ⟨w1.heap.size, 1, none⟩ = some (.slice P q d) := k4.at_ rfl
  have x2 : w3.cell? ⟨w1.heap.size, 2, none⟩ = some (.int .i64 Y) := k4.at_ rfl
  have x3 : w3.cell? ⟨w1.heap.size, 3, none⟩ = some (.int .i64 (m : Int)) := k4.at_ rfl
  have x4 : w3.cell? ⟨w1.heap.size, 4, none⟩ = some (.int .i64 0) := k4.at_ rfl
  have x5 : w3.cell? ⟨w1.heap.size, 5, none⟩ = some (.int .i64 Z) := k4.at_ rfl
  go_wp2_with fail
  refine (HO.out _).mono ?_
  rintro E w5 ⟨rfl, b5⟩
  have ok5 := ok4.step b5
  have k5 := k4.thru b5
  clear k4 ok4 b5 x0 x1 x2 x3 x4 x5
  go_wp2_with fail
  refine (HA.out _ ok5).mono ?_
  rintro E w4 ⟨va, rfl, oa, b4⟩
  have ok4 := ok5.step b4
  have k4 := k5.thru b4
  obtain ⟨A1, c1, rfl, -⟩ := own_reads1 oa
  have HR := Lib.hid (Reads.of_own oa)
  clear k5 ok5 b4 oa
  go_wp2_with fail
  go_loopw [8, 9] (fun v i wr => ∃ j : Nat, j ≤ m ∧ i = .int .i64 (j : Int) ∧ v = .int .i64 (bef XS j) ∧ Ok w4 wr) (fun _ i _ => m - (intOf i).toNat)
  case atStart => exact ⟨0, by omega, rfl, by rw [hb0], Ok.refl w4⟩
  case round =>
    obtain ⟨j, hj, rfl, rfl, okr⟩ := hrel
    by_cases hlt : j < m
    · have hji : (j : Int) < (m : Int) := by omega
      obtain ⟨f1, f2, f3, f4, f5, f6⟩ := HF.out j hlt
      obtain ⟨ad1, rfl, hab, -, hc1⟩ := HR.out.int_at hlt
      rw [f6] at hc1
      have HC : Hid (∀ W, Ok w4 W → W.cell? (ad1.add j) = some (.int .i64 (at_ XS j))) := Lib.hid fun W hW => (Below.cell hW (p := ad1.add j) (by unfold Addr.add; split <;> exact hab)).trans hc1
      have hFI := Lib.hid (fun W y hW hy => HFI.out W j y hW hlt hy)
      have HF1 := Lib.hid f1
      clear hc1 f1 f6 hab hb0
      generalize bef XS j = S at *
      generalize at_ XS j = U at *
      obtain ⟨wo, rfl⟩ : ∃ wo : World, wo = wr := ⟨_, rfl⟩
      go_upto_region 13 with fail
      go_loopw [8, 10] (fun v i wr => ∃ y : Nat, (y : Int) ≤ U ∧ i = .int .i64 (y : Int) ∧ v = .int .i64 (S + (y : Int)) ∧ Ok w4 wr) (fun _ i _ => (U - intOf i).toNat)
      case atStart => exact ⟨0, by omega, rfl, by simp, okr⟩
      case round =>
        obtain ⟨y, hy, rfl, rfl, oky⟩ := hrel
        have okw := ok4.step oky
        have ky := k4.thru oky
        have hc := HC.out _ oky
        by_cases hyl : (y : Int) < U
        · have hF := Lib.hid (fun W hW => hFI.out W y hW hyl)
          have g1 : ((j : Int) != (j : Int)) = false := by simp
          have g2 : ((y : Int) != (y : Int)) = false := by simp
          have w1' : IntKind.i64.wrap (S + (y : Int) + 1) = S + ((y + 1 : Nat) : Int) := by
            rw [wrap_small (by omega) (by omega)]
            omega
          have w2' : IntKind.i64.wrap ((y : Int) + 1) = ((y + 1 : Nat) : Int) := by
            rw [wrap_small (by omega) (by omega)]
            omega
          have x0 : wr.cell? ⟨w1.heap.size, 0, none⟩ = some (.string s) := ky.at_ rfl
          have x1 : wr.cell? ⟨w1.heap.size, 1, none⟩ = some (.slice P q d) := ky.at_ rfl
          have x2 : wr.cell? ⟨w1.heap.size, 2, none⟩ = some (.int .i64 Y) := ky.at_ rfl
          have x3 : wr.cell? ⟨w1.heap.size, 3, none⟩ = some (.int .i64 (m : Int)) := ky.at_ rfl
          have x4 : wr.cell? ⟨w1.heap.size, 4, none⟩ = some (.int .i64 0) := ky.at_ rfl
          have x5 : wr.cell? ⟨w1.heap.size, 5, none⟩ = some (.int .i64 Z) := ky.at_ rfl
          go_wp2_with fail
          refine (HO.out _).mono ?_
          rintro E v1 ⟨rfl, c1⟩
          have okv1 := okw.step c1
          have oku1 := oky.step c1
          clear ky okw oky hc c1 x0 x1 x2 x3 x4 x5
          go_wp2_with fail
          refine (hF.out _ okv1).mono ?_
          rintro E v2 ⟨rfl, c2⟩
          have oku2 := oku1.step c2
          clear oku1 okv1 c2
          go_wp2_with fail
          go_roundw
          case rel => exact ⟨y + 1, by omega, by first | rfl | go_num, by first | rfl | (rw [w1']), oku2⟩
          case measure => simp only [intOf]; omega
        · have hyl' : ¬ (y : Int) < U := hyl
          have hyU : (y : Int) = U := by omega
          rw [hyU] at hyl' ⊢
          go_wp2_with fail
          go_roundw
          case rel => exact ⟨j + 1, by omega, by go_num, by rw [HF1.out], oky⟩
          case measure => simp only [intOf]; omega
    · have hji : ¬ (j : Int) < (m : Int) := by omega
      have hS : bef XS j = Y := by rw [show j = m by omega]; exact HS.out
      have kr := k4.thru okr
      have okw := ok4.step okr
      rw [hS]
      clear hS HF HS HFI HR HA HO hb0
      go_wp2_with fail
      refine (HG.out _ (ok1.step okw)).mono ?_
      rintro E v1 ⟨T2, lo2, hi2, m2, rfl, p0, p1, p2, p3, p4, p5, p6, c1⟩
      have okv1 := okw.step c1
      have kr1 := kr.thru c1
      have k1 := Blk.new v1 29 (spC ⟨#[103]⟩ none 0 0 T2 (m2 : Int) lo2 hi2)
      have okv2 := okv1.alloc (.cells (spC ⟨#[103]⟩ none 0 0 T2 (m2 : Int) lo2 hi2) 29)
      have kr2 := kr1.alloc (.cells (spC ⟨#[103]⟩ none 0 0 T2 (m2 : Int) lo2 hi2) 29)
      have z0 : (m2 : Int) * 0 ≤ (m2 : Int) * lo2 := Int.mul_le_mul_of_nonneg_left p2 (by omega)
      have z1 : (m2 : Int) * hi2 ≤ (m2 : Int) * 1048575 := Int.mul_le_mul_of_nonneg_left p4 (by omega)
      have hT0 : 0 ≤ T2 := by omega
      have hT1 : T2 ≤ 1099511627776 := by omega
      clear kr1 okv1 kr okr okw c1 HG z0 z1
      go_upto_region 20 with fail
      generalize v1.alloc (.cells (spC ⟨#[103]⟩ none 0 0 T2 (m2 : Int) lo2 hi2) 29) = v2 at *
      by_cases hz : T2 = 0
      · subst hz
        have y2 : v2.cell? ⟨v1.heap.size, 2, none⟩ = some (.int .i64 0) := k1.at_ rfl
        have x2 : v2.cell? ⟨w1.heap.size, 2, none⟩ = some (.int .i64 Y) := kr2.at_ rfl
        go_wp2_with fail
        refine (HV.out _ okv2).mono ?_
        rintro E v6 ⟨rfl, c6⟩
        have ok6 := ok1.step (okv2.step c6)
        go_wp2_with fail
        go_ret
        exact ⟨rfl, ok6⟩
      · have hz1 : 1 ≤ T2 := by omega
        have hzb : (T2 == 0) = false := by simpa using hz
        have hso : SOk ⟨#[103]⟩ 0 T2 (m2 : Int) lo2 hi2 := ⟨by decide, by omega, by omega, by omega, by omega, by omega, p3, p5, p6⟩
        have hha := great_halved (N := m2) (P := none) (d := 0) (by omega) T2 lo2 hi2 p2 p3 p4
        have hro : GreatI m2 lo2 hi2 0 m2 T2 := ⟨gi_top (by omega) (by omega), p5, p6⟩
        have hTT : ∀ a m t, GreatI m2 lo2 hi2 a m t → -68719476736 ≤ t ∧ t ≤ 68719476736 := fun a m t h => by
          have := great_bound (by omega) p2 p3 p4 h
          omega
        obtain ⟨YS, hYS⟩ : ∃ YS, YS = parts (leftV sG [] lo2 hi2) 0 m2 T2 := ⟨_, rfl⟩
        have hYL : YS.length = m2 := by rw [hYS]; exact parts_len _ m2 0 T2
        have hYB : ∀ y ∈ YS, lo2 ≤ y ∧ y ≤ hi2 := by rw [hYS]; exact parts_bound p3 m2 0 T2 p5 p6
        have hY0 : ∀ y ∈ YS, 0 ≤ y := fun y hy => by have := hYB y hy; omega
        have hkk := around_lt k T2 hz1
        have HAR2 := Lib.hid (fun W => HAR.out W T2 hz1 hT1)
        generalize around k T2 = u at *
        obtain ⟨i, hi0, hi1, hi2', -⟩ := find_at (HN.out _ okv2) hso hha hro hTT p2 (by rw [← hYS]; exact hY0) u hkk.1 hkk.2 (by omega)
        rw [← hYS] at hi1 hi2'
        have HFI : Hid (∀ W, Ok w1 W → Calls Tryd.prog 15 #[spV ⟨#[103]⟩ none 0 0 T2 (m2 : Int) lo2 hi2, .int .i64 u] W fun E W' => E = .returned (.tuple #[.int .i64 (i : Int), .int .i64 (u - bef YS i), .int .i64 0]) ∧ Below W.heap.size W W') := Lib.hid fun W hW => by
          obtain ⟨i', e1, e2, e3, e4⟩ := find_at (HN.out _ hW) hso hha hro hTT p2 (by rw [← hYS]; exact hY0) u hkk.1 hkk.2 (by omega)
          rw [← hYS] at e2 e3 e4
          have : i' = i := bef_one hY0 (by omega) (by omega) e2 e3 hi1 hi2'
          subst this
          exact e4
        have HB : Hid (∀ W, Ok w1 W → Calls Tryd.prog 10 #[spV ⟨#[103]⟩ none 0 0 T2 (m2 : Int) lo2 hi2, .int .i64 (i : Int)] W fun E W' => E = .returned (.tuple #[.int .i64 (bef YS i), .int .i64 0]) ∧ Below W.heap.size W W') := Lib.hid fun W hW => by
          rw [hYS]
          exact before_at (HN.out W hW) hso hha hro hTT i (by omega) (fun e => by omega)
        have HP : Hid (∀ W, Ok w1 W → Calls Tryd.prog 11 #[spV ⟨#[103]⟩ none 0 0 T2 (m2 : Int) lo2 hi2, .int .i64 (i : Int)] W fun E W' => E = .returned (.tuple #[.int .i64 (at_ YS i), .int .i64 0]) ∧ Below W.heap.size W W') := Lib.hid fun W hW => by
          rw [hYS]
          exact part_at (HN.out W hW) hso hha hro hTT i (by omega)
        have hws : IntKind.i64.wrap (bef YS i + (u - bef YS i)) = u := by
          rw [show bef YS i + (u - bef YS i) = u by omega]
          exact wrap_small (by omega) (by omega)
        have q1 : 0 ≤ u - bef YS i := by omega
        have q2 : u - bef YS i < at_ YS i := by omega
        clear hso hha hro hTT hYS hYL hYB hY0 hkk p0 p1 p2 p3 p4 p5 p6 HAR HN hi0 hi1 hi2'
        generalize u - bef YS i = R at *
        generalize bef YS i = S at *
        generalize at_ YS i = U at *
        have x0 : v2.cell? ⟨v1.heap.size, 0, none⟩ = some (.string ⟨#[103]⟩) := k1.at_ rfl
        have x1 : v2.cell? ⟨v1.heap.size, 1, none⟩ = some (.slice none 0 0) := k1.at_ rfl
        have x2 : v2.cell? ⟨v1.heap.size, 2, none⟩ = some (.int .i64 T2) := k1.at_ rfl
        have x3 : v2.cell? ⟨v1.heap.size, 3, none⟩ = some (.int .i64 (m2 : Int)) := k1.at_ rfl
        have x4 : v2.cell? ⟨v1.heap.size, 4, none⟩ = some (.int .i64 lo2) := k1.at_ rfl
        have x5 : v2.cell? ⟨v1.heap.size, 5, none⟩ = some (.int .i64 hi2) := k1.at_ rfl
        go_wp2_with fail
        refine (HAR2.out _).mono ?_
        rintro E wq ⟨rfl, rfl⟩
        go_wp2_with fail
        refine (HFI.out _ okv2).mono ?_
        rintro E v3 ⟨rfl, c3⟩
        have okv3 := okv2.step c3
        have k3 := k1.thru c3
        have kr3 := kr2.thru c3
        clear k1 kr2 okv2 c3 x0 x1 x2 x3 x4 x5
        have x0 : v3.cell? ⟨v1.heap.size, 0, none⟩ = some (.string ⟨#[103]⟩) := k3.at_ rfl
        have x1 : v3.cell? ⟨v1.heap.size, 1, none⟩ = some (.slice none 0 0) := k3.at_ rfl
        have x2 : v3.cell? ⟨v1.heap.size, 2, none⟩ = some (.int .i64 T2) := k3.at_ rfl
        have x3 : v3.cell? ⟨v1.heap.size, 3, none⟩ = some (.int .i64 (m2 : Int)) := k3.at_ rfl
        have x4 : v3.cell? ⟨v1.heap.size, 4, none⟩ = some (.int .i64 lo2) := k3.at_ rfl
        have x5 : v3.cell? ⟨v1.heap.size, 5, none⟩ = some (.int .i64 hi2) := k3.at_ rfl
        go_wp2_with fail
        refine (HB.out _ okv3).mono ?_
        rintro E v4 ⟨rfl, c4⟩
        have okv4 := okv3.step c4
        have k4' := k3.thru c4
        have kr4 := kr3.thru c4
        clear k3 kr3 okv3 c4 x0 x1 x2 x3 x4 x5
        have x0 : v4.cell? ⟨v1.heap.size, 0, none⟩ = some (.string ⟨#[103]⟩) := k4'.at_ rfl
        have x1 : v4.cell? ⟨v1.heap.size, 1, none⟩ = some (.slice none 0 0) := k4'.at_ rfl
        have x2 : v4.cell? ⟨v1.heap.size, 2, none⟩ = some (.int .i64 T2) := k4'.at_ rfl
        have x3 : v4.cell? ⟨v1.heap.size, 3, none⟩ = some (.int .i64 (m2 : Int)) := k4'.at_ rfl
        have x4 : v4.cell? ⟨v1.heap.size, 4, none⟩ = some (.int .i64 lo2) := k4'.at_ rfl
        have x5 : v4.cell? ⟨v1.heap.size, 5, none⟩ = some (.int .i64 hi2) := k4'.at_ rfl
        go_wp2_with fail
        refine (HP.out _ okv4).mono ?_
        rintro E v5 ⟨rfl, c5⟩
        have okv5 := okv4.step c5
        have kr5 := kr4.thru c5
        clear k4' kr4 okv4 c5 x0 x1 x2 x3 x4 x5
        have x2 : v5.cell? ⟨w1.heap.size, 2, none⟩ = some (.int .i64 Y) := kr5.at_ rfl
        go_wp2_with fail
        refine (HV.out _ okv5).mono ?_
        rintro E v6 ⟨rfl, c6⟩
        have ok6 := ok1.step (okv5.step c6)
        go_wp2_with fail
        go_ret
        exact ⟨rfl, ok6⟩
theorem splitFound_walk (A : Option Addr) (n c : Nat) (l : List Int) (k : Int) (w : World) (_ : n ≤ c) (_ : n ≤ maxLen) (hl : Reads w w.heap.size 1 A n (ints l)) (hI : ∀ x ∈ l, I64 x) (hk : I64 k) (hK : Consts w) (h0 : 0 < w.heap.size) :
    Calls Tryd.prog 4 #[.slice A n c, .int .i64 k] w fun E W' => E = .returned (.bool true) ∧ Below w.heap.size w W' := splitFound_any A n c l k w hl hI hk hK h0
end Go.Proofs.YtkchalnohkfhbaaDoor
