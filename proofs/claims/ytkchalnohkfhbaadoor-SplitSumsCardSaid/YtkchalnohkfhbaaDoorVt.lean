/- The walk of the law SplitSums. Conditions: the round constants lie in their variable; the list's numbers and the other one have 64 bits. -/
import Derived.Test.YtkchalnohkfhbaaDoorVs
import Derived.Test.YtkchalnohkfhbaaDoorVq
import Derived.Test.YtkchalnohkfhbaaDoorVr
set_option linter.unusedSimpArgs false
set_option linter.unusedVariables false
namespace Go.Proofs.YtkchalnohkfhbaaDoor
open Go.RowKit Go.Shelf Go

set_option maxRecDepth 100000 in
set_option maxHeartbeats 16000000 in
theorem splitSums_any (A : Option Addr) (n c : Nat) (l : List Int) (k : Int) (w : World) (hl : Reads w w.heap.size 1 A n (ints l)) (hI : ∀ x ∈ l, I64 x) (hk : I64 k) (hK : Consts w) (h0 : 0 < w.heap.size) :
    Calls Tryd.prog 3 #[.slice A n c, .int .i64 k] w fun E W' => E = .returned (.bool true) ∧ Below w.heap.size w W' := by
  have hr1 := rAt_lt l 1 13 (by omega)
  have hr2 := rAt_lt l 2 7 (by omega)
  have hr3 := rAt_lt l 3 12 (by omega)
  have hr4 := rAt_lt l 4 4 (by omega)
  have HM := Lib.hid (made_split A n c l w hl hI)
  have HG := Lib.hid (fun W (hW : Ok w W) => great_any A n c l W ((hl.below hW).more hW.size) hI)
  have HK := Lib.hid hK
  have HAR : Hid (∀ W (m : Nat), 60000 ≤ m → m ≤ 65536 → Calls Tryd.prog 13 #[.int .i64 k, .int .i64 (m : Int)] W fun e w' => e = .returned (.int .i64 (around k (m : Int))) ∧ w' = W) := Lib.hid fun W m _ _ => around_any k (m : Int) W hk.1 hk.2 (by omega) (by omega)
  clear hl hI hK hk
  go_enter Tryd.func3, Tryd.ntmps3
  go_wp2_with fail
  refine HM.out.mono ?_
  rintro E w1 ⟨x, P, q, d, p, T, m, lo, hi, rfl, hx0, hx1, hm, hlo, hhi, hq, hp, hrd, ht0, ht1, b1⟩
  have ok1 : Ok w w1 := b1
  generalize rAt l 1 13 = r1 at *
  generalize rAt l 2 7 = r2 at *
  generalize rAt l 3 12 = r3 at *
  generalize rAt l 4 4 = r4 at *
  have hq3 : q ≤ 3 := by omega
  have hpl : p.length = q := hrd.int_len
  have hm12 : m ≤ 12 := by omega
  have hlb : -2 ≤ lo ∧ lo ≤ 4 := by omega
  have hhb : lo ≤ hi ∧ hi ≤ lo + 11 := by omega
  have hs : (seedOf x).size ≤ 32 := seedOf_le x
  have hI0 : ∀ y ∈ p, I64 y := fun y hy => by have := hp y hy; unfold I64; omega
  have hnet : ∀ W, Ok w1 W → Net (seedOf x) P q p W := fun W hW => by
    have hr := hrd.below hW
    exact ⟨hr.more hW.size, hI0, by omega, by omega, (ok1.step hW).consts HK.out h0, (ok1.step hW).pos h0⟩
  obtain ⟨XS, hXS⟩ : ∃ XS, XS = parts (leftV (seedOf x) p lo hi) 0 m T := ⟨_, rfl⟩
  have hXL : XS.length = m := by rw [hXS]; exact parts_len _ m 0 T
  have hXB : ∀ y ∈ XS, lo ≤ y ∧ y ≤ hi := by rw [hXS]; exact parts_bound hhb.1 m 0 T ht0 ht1
  have hso : SOk (seedOf x) q T (m : Int) lo hi := ⟨hs, by omega, by omega, by omega, by omega, by omega, hhb.1, ht0, ht1⟩
  have hha := made_halved (P := P) (d := d) hx0 hx1 hq3 (by omega) hp T (m : Int) lo hi (by omega) hhb.1 (by omega) (by omega)
  have hro : MadeI lo hi 0 m T := made_root hm12 ht0 ht1
  have hm0 : m = 0 → T = 0 := fun e => by
    subst e
    simp at ht0 ht1
    omega
  have HA : Hid (∀ W, Ok w1 W → Calls Tryd.prog 8 #[spV (seedOf x) P q d T (m : Int) lo hi] W fun E W' => ∃ v, E = .returned (.tuple #[v, .int .i64 0]) ∧ W'.ownsRow W.heap.size 3 1 v m (ints XS) ∧ Below W.heap.size W W') := Lib.hid fun W hW => by
    rw [hXS]
    exact all_any (c := d) (hnet W hW) hso hha hro
  have HB : Hid (∀ W (j : Nat), Ok w1 W → j ≤ m → Calls Tryd.prog 10 #[spV (seedOf x) P q d T (m : Int) lo hi, .int .i64 (j : Int)] W fun E W' => E = .returned (.tuple #[.int .i64 (bef XS j), .int .i64 0]) ∧ Below W.heap.size W W') := Lib.hid fun W j hW hj => by
    rw [hXS]
    exact before_at (hnet W hW) hso hha hro (fun a m t h => madeI_bound (by omega) (by omega) h) j hj hm0
  have HP : Hid (∀ W (j : Nat), Ok w1 W → j < m → Calls Tryd.prog 11 #[spV (seedOf x) P q d T (m : Int) lo hi, .int .i64 (j : Int)] W fun E W' => E = .returned (.tuple #[.int .i64 (at_ XS j), .int .i64 0]) ∧ Below W.heap.size W W') := Lib.hid fun W j hW hj => by
    rw [hXS]
    exact part_at (hnet W hW) hso hha hro (fun a m t h => madeI_bound (by omega) (by omega) h) j hj
  have hsum : bef XS (m + 1) = T := by
    by_cases h1 : 1 ≤ m
    · unfold bef
      rw [List.take_of_length_le (by omega), hXS]
      exact parts_sum _ m 0 T h1
    · have e0 : m = 0 := by omega
      have : XS = [] := List.length_eq_zero_iff.1 (by omega)
      rw [this, hm0 e0]
      rfl
  have hlast : bef XS (m + 1) = bef XS m := by
    unfold bef
    rw [List.take_of_length_le (by omega), List.take_of_length_le (by omega)]
  have HF : Hid (∀ j : Nat, j < m → bef XS (j + 1) = bef XS j + at_ XS j ∧ lo ≤ at_ XS j ∧ at_ XS j ≤ hi ∧ IntKind.i64.wrap (bef XS j + at_ XS j) = bef XS j + at_ XS j ∧ XS[j]?.getD 0 = at_ XS j) := Lib.hid fun j hj => by
    have h1 := bef_bound hXB j (by omega)
    have h2 := hXB _ (atp_mem (L := XS) (j := j) (by omega))
    have e1 : (j : Int) * (-2) ≤ (j : Int) * lo := Int.mul_le_mul_of_nonneg_left (by omega) (by omega)
    have e2 : (j : Int) * hi ≤ (j : Int) * 15 := Int.mul_le_mul_of_nonneg_left (by omega) (by omega)
    exact ⟨bef_next XS j (by omega), h2.1, h2.2, wrap_small (by omega) (by omega), rfl⟩
  have HS := Lib.hid (And.intro hsum hlast)
  have HO := Lib.hid (fun W => own_any (seedOf x) P q d T (m : Int) lo hi W)
  have HV := Lib.hid (fun W (hW : Ok w1 W) => splitLives_any W ((ok1.step hW).consts HK.out h0) ((ok1.step hW).pos h0))
  have HN : Hid (∀ W, Ok w1 W → Net ⟨#[103]⟩ none 0 [] W) := Lib.hid fun W hW => net_none (by decide) ((ok1.step hW).consts HK.out h0) ((ok1.step hW).pos h0)
  have hb0 : bef XS 0 = 0 := bef_zero XS
  generalize seedOf x = s at *
  clear hsum hlast hXS hXL hXB hp hpl hrd hnet hI0 hs hx0 hx1 hm hlo hhi hq hr1 hr2 hr3 hr4 ht0 ht1 hlb hhb hq3 b1 hso hha hro hm0
  have k3 := Blk.new w1 24 (spC s P q d T (m : Int) lo hi)
  have ok3 := (Ok.refl w1).alloc (.cells (spC s P q d T (m : Int) lo hi) 24)
  go_wp2_with fail
  refine (HO.out _).mono ?_
  rintro E w2 ⟨rfl, b2⟩
  have ok2 := ok3.step b2
  have k2 := k3.thru b2
  clear k3 ok3 b2
  go_wp2_with fail
  refine (HA.out _ ok2).mono ?_
  rintro E w4 ⟨va, rfl, oa, b4⟩
  have ok4 := ok2.step b4
  have k4 := k2.thru b4
  obtain ⟨A1, c1, rfl, -⟩ := own_reads1 oa
  have HR := Lib.hid (Reads.of_own oa)
  have a3 : w4.cell? ⟨w1.heap.size, 3, none⟩ = some (.int .i64 (m : Int)) := k4.at_ rfl
  have g1 : ((m : Int) != (m : Int)) = false := by simp
  clear k2 ok2 b4 oa
  go_wp2_with fail
  go_loopw [8, 9] (fun v i wr => ∃ j : Nat, j ≤ m + 1 ∧ i = .int .i64 (j : Int) ∧ v = .int .i64 (bef XS j) ∧ Ok w4 wr) (fun _ i _ => m + 1 - (intOf i).toNat)
  case atStart => exact ⟨0, by omega, rfl, by rw [hb0], Ok.refl w4⟩
  case round =>
    obtain ⟨j, hj, rfl, rfl, okr⟩ := hrel
    have okw := ok4.step okr
    have kr := k4.thru okr
    by_cases hle : j ≤ m
    · have hji : (j : Int) ≤ (m : Int) := by omega
      have hB := Lib.hid (fun W hW => HB.out W j hW hle)
      have x0 : wr.cell? ⟨w1.heap.size, 0, none⟩ = some (.string s) := kr.at_ rfl
      have x1 : wr.cell? ⟨w1.heap.size, 1, none⟩ = some (.slice P q d) := kr.at_ rfl
      have x2 : wr.cell? ⟨w1.heap.size, 2, none⟩ = some (.int .i64 T) := kr.at_ rfl
      have x3 : wr.cell? ⟨w1.heap.size, 3, none⟩ = some (.int .i64 (m : Int)) := kr.at_ rfl
      have x4 : wr.cell? ⟨w1.heap.size, 4, none⟩ = some (.int .i64 lo) := kr.at_ rfl
      have x5 : wr.cell? ⟨w1.heap.size, 5, none⟩ = some (.int .i64 hi) := kr.at_ rfl
      by_cases hlt : j < m
      · have hlti : (j : Int) < (m : Int) := by omega
        have hP := Lib.hid (fun W hW => HP.out W j hW hlt)
        obtain ⟨f1, f2, f3, f4, f5⟩ := HF.out j hlt
        obtain ⟨ad1, rfl, hab, -, hc1⟩ := HR.out.int_at hlt
        rw [f5] at hc1
        have HC : Hid (∀ W, Ok w4 W → W.cell? (ad1.add j) = some (.int .i64 (at_ XS j))) := Lib.hid fun W hW => (Below.cell hW (p := ad1.add j) (by unfold Addr.add; split <;> exact hab)).trans hc1
        have HF1 := Lib.hid f1
        clear hc1 f1 f5 hab
        generalize bef XS j = S at *
        generalize at_ XS j = U at *
        have g2 : (S != S) = false := by simp
        have g3 : (U != U) = false := by simp
        have g4 : ¬ U < lo := by omega
        have g5 : ¬ hi < U := by omega
        clear a3
        go_wp2_with fail
        refine (HO.out _).mono ?_
        rintro E v1 ⟨rfl, c1⟩
        have okv1 := okw.step c1
        have oku1 := okr.step c1
        go_wp2_with fail
        refine (hB.out _ okv1).mono ?_
        rintro E v2 ⟨rfl, c2⟩
        have okv2 := okv1.step c2
        have oku2 := oku1.step c2
        have kr2 := (kr.thru c1).thru c2
        clear x0 x1 x2 x3 x4 x5 c1 c2 okv1 oku1 kr
        have x0 : v2.cell? ⟨w1.heap.size, 0, none⟩ = some (.string s) := kr2.at_ rfl
        have x1 : v2.cell? ⟨w1.heap.size, 1, none⟩ = some (.slice P q d) := kr2.at_ rfl
        have x2 : v2.cell? ⟨w1.heap.size, 2, none⟩ = some (.int .i64 T) := kr2.at_ rfl
        have x3 : v2.cell? ⟨w1.heap.size, 3, none⟩ = some (.int .i64 (m : Int)) := kr2.at_ rfl
        have x4 : v2.cell? ⟨w1.heap.size, 4, none⟩ = some (.int .i64 lo) := kr2.at_ rfl
        have x5 : v2.cell? ⟨w1.heap.size, 5, none⟩ = some (.int .i64 hi) := kr2.at_ rfl
        go_wp2_with fail
        refine (HO.out _).mono ?_
        rintro E v3 ⟨rfl, c3⟩
        have okv3 := okv2.step c3
        have oku3 := oku2.step c3
        go_wp2_with fail
        refine (hP.out _ okv3).mono ?_
        rintro E v4 ⟨rfl, c4⟩
        have okv4 := okv3.step c4
        have oku4 := oku3.step c4
        have kr4 := (kr2.thru c3).thru c4
        clear x0 x1 x2 x3 x4 x5 c3 c4 okv3 oku3 kr2
        have x4 : v4.cell? ⟨w1.heap.size, 4, none⟩ = some (.int .i64 lo) := kr4.at_ rfl
        have x5 : v4.cell? ⟨w1.heap.size, 5, none⟩ = some (.int .i64 hi) := kr4.at_ rfl
        have x6 := HC.out _ oku4
        go_wp2_with fail
        go_roundw
        case rel => exact ⟨j + 1, by omega, by go_num, by rw [HF1.out], oku4⟩
        case measure => simp only [intOf]; omega
      · have hlti : ¬ (j : Int) < (m : Int) := by omega
        have HF1 : Hid (bef XS (j + 1) = bef XS j) := Lib.hid (by rw [show j = m by omega]; exact HS.out.2)
        generalize bef XS j = S at *
        have g2 : (S != S) = false := by simp
        clear a3
        go_wp2_with fail
        refine (HO.out _).mono ?_
        rintro E v1 ⟨rfl, c1⟩
        have okv1 := okw.step c1
        have oku1 := okr.step c1
        go_wp2_with fail
        refine (hB.out _ okv1).mono ?_
        rintro E v2 ⟨rfl, c2⟩
        have oku2 := oku1.step c2
        clear x0 x1 x2 x3 x4 x5 c1 c2 okv1 oku1 kr
        go_wp2_with fail
        go_roundw
        case rel => exact ⟨j + 1, by omega, by go_num, by rw [HF1.out], oku2⟩
        case measure => simp only [intOf]; omega
    · have hji : ¬ (j : Int) ≤ (m : Int) := by omega
      have hS : bef XS j = T := by rw [show j = m + 1 by omega]; exact HS.out.1
      rw [hS]
      clear hS HF HS HB HP HR HA HO a3 hb0
      go_wp2_with fail
      refine (HG.out _ (ok1.step okw)).mono ?_
      rintro E v1 ⟨T2, lo2, hi2, m2, rfl, p0, p1, p2, p3, p4, p5, p6, c1⟩
      have okv1 := okw.step c1
      have kr1 := kr.thru c1
      have hso : SOk ⟨#[103]⟩ 0 T2 (m2 : Int) lo2 hi2 := ⟨by decide, by omega, by omega, by omega, by omega, by omega, p3, p5, p6⟩
      have hha := great_halved (N := m2) (P := none) (d := 0) (by omega) T2 lo2 hi2 p2 p3 p4
      have hro : GreatI m2 lo2 hi2 0 m2 T2 := ⟨gi_top (by omega) (by omega), p5, p6⟩
      have hTT : ∀ a m t, GreatI m2 lo2 hi2 a m t → -68719476736 ≤ t ∧ t ≤ 68719476736 := fun a m t h => by
        have := great_bound (by omega) p2 p3 p4 h
        omega
      obtain ⟨YS, hYS⟩ : ∃ YS, YS = parts (leftV sG [] lo2 hi2) 0 m2 T2 := ⟨_, rfl⟩
      have hYL : YS.length = m2 := by rw [hYS]; exact parts_len _ m2 0 T2
      have hYB : ∀ y ∈ YS, lo2 ≤ y ∧ y ≤ hi2 := by rw [hYS]; exact parts_bound p3 m2 0 T2 p5 p6
      have hkk := around_lt k (m2 : Int) (by omega)
      have HAR2 := Lib.hid (fun W => HAR.out W m2 p0 p1)
      obtain ⟨i, hi⟩ : ∃ i : Nat, around k (m2 : Int) = (i : Int) := ⟨(around k (m2 : Int)).toNat, by omega⟩
      rw [hi] at hkk HAR2
      have HB : Hid (∀ W, Ok w1 W → Calls Tryd.prog 10 #[spV ⟨#[103]⟩ none 0 0 T2 (m2 : Int) lo2 hi2, .int .i64 (i : Int)] W fun E W' => E = .returned (.tuple #[.int .i64 (bef YS i), .int .i64 0]) ∧ Below W.heap.size W W') := Lib.hid fun W hW => by
        rw [hYS]
        exact before_at (HN.out W hW) hso hha hro hTT i (by omega) (fun e => by omega)
      have HB2 : Hid (∀ W, Ok w1 W → Calls Tryd.prog 10 #[spV ⟨#[103]⟩ none 0 0 T2 (m2 : Int) lo2 hi2, .int .i64 ((i : Int) + 1)] W fun E W' => E = .returned (.tuple #[.int .i64 (bef YS i + at_ YS i), .int .i64 0]) ∧ Below W.heap.size W W') := Lib.hid fun W hW => by
        rw [← bef_next YS i (by omega), hYS]
        exact before_at (HN.out W hW) hso hha hro hTT (i + 1) (by omega) (fun e => by omega)
      have HP : Hid (∀ W, Ok w1 W → Calls Tryd.prog 11 #[spV ⟨#[103]⟩ none 0 0 T2 (m2 : Int) lo2 hi2, .int .i64 (i : Int)] W fun E W' => E = .returned (.tuple #[.int .i64 (at_ YS i), .int .i64 0]) ∧ Below W.heap.size W W') := Lib.hid fun W hW => by
        rw [hYS]
        exact part_at (HN.out W hW) hso hha hro hTT i (by omega)
      have hwi : IntKind.i64.wrap ((i : Int) + 1) = (i : Int) + 1 := wrap_small (by omega) (by omega)
      have hws : IntKind.i64.wrap (bef YS i + at_ YS i) = bef YS i + at_ YS i := by
        have h1 := bef_bound hYB i (by omega)
        have h2 := hYB _ (atp_mem (L := YS) (j := i) (by omega))
        have e1 : (i : Int) * 0 ≤ (i : Int) * lo2 := Int.mul_le_mul_of_nonneg_left (by omega) (by omega)
        have e2 : (i : Int) * hi2 ≤ (i : Int) * 1048575 := Int.mul_le_mul_of_nonneg_left (by omega) (by omega)
        exact wrap_small (by omega) (by omega)
      have hUB := hYB _ (atp_mem (L := YS) (j := i) (by omega))
      have q1 : lo2 ≤ at_ YS i := hUB.1
      have q2 : at_ YS i ≤ hi2 := hUB.2
      clear hUB hso hha hro hTT hYS hYL hYB hi hkk p0 p1 p2 p3 p4 p5 p6 c1 HG HAR HN kr okr okw
      generalize bef YS i = S at *
      generalize at_ YS i = U at *
      have k1 := Blk.new v1 29 (spC ⟨#[103]⟩ none 0 0 T2 (m2 : Int) lo2 hi2)
      have okv2 := okv1.alloc (.cells (spC ⟨#[103]⟩ none 0 0 T2 (m2 : Int) lo2 hi2) 29)
      have kr2 := kr1.alloc (.cells (spC ⟨#[103]⟩ none 0 0 T2 (m2 : Int) lo2 hi2) 29)
      clear kr1 okv1
      go_wp2_with fail
      refine (HAR2.out _).mono ?_
      rintro E wq ⟨rfl, rfl⟩
      go_wp2_with fail
      refine (HB.out _ okv2).mono ?_
      rintro E v3 ⟨rfl, c3⟩
      have okv3 := okv2.step c3
      have k3 := k1.thru c3
      have kr3 := kr2.thru c3
      clear k1 kr2 okv2 c3
      have x0 : v3.cell? ⟨v1.heap.size, 0, none⟩ = some (.string ⟨#[103]⟩) := k3.at_ rfl
      have x1 : v3.cell? ⟨v1.heap.size, 1, none⟩ = some (.slice none 0 0) := k3.at_ rfl
      have x2 : v3.cell? ⟨v1.heap.size, 2, none⟩ = some (.int .i64 T2) := k3.at_ rfl
      have x3 : v3.cell? ⟨v1.heap.size, 3, none⟩ = some (.int .i64 (m2 : Int)) := k3.at_ rfl
      have x4 : v3.cell? ⟨v1.heap.size, 4, none⟩ = some (.int .i64 lo2) := k3.at_ rfl
      have x5 : v3.cell? ⟨v1.heap.size, 5, none⟩ = some (.int .i64 hi2) := k3.at_ rfl
      go_wp2_with fail
      refine (HB2.out _ okv3).mono ?_
      rintro E v4 ⟨rfl, c4⟩
      have okv4 := okv3.step c4
      have k4 := k3.thru c4
      have kr4 := kr3.thru c4
      clear k3 kr3 okv3 c4 x0 x1 x2 x3 x4 x5
      have x0 : v4.cell? ⟨v1.heap.size, 0, none⟩ = some (.string ⟨#[103]⟩) := k4.at_ rfl
      have x1 : v4.cell? ⟨v1.heap.size, 1, none⟩ = some (.slice none 0 0) := k4.at_ rfl
      have x2 : v4.cell? ⟨v1.heap.size, 2, none⟩ = some (.int .i64 T2) := k4.at_ rfl
      have x3 : v4.cell? ⟨v1.heap.size, 3, none⟩ = some (.int .i64 (m2 : Int)) := k4.at_ rfl
      have x4 : v4.cell? ⟨v1.heap.size, 4, none⟩ = some (.int .i64 lo2) := k4.at_ rfl
      have x5 : v4.cell? ⟨v1.heap.size, 5, none⟩ = some (.int .i64 hi2) := k4.at_ rfl
      go_wp2_with fail
      refine (HP.out _ okv4).mono ?_
      rintro E v5 ⟨rfl, c5⟩
      have okv5 := okv4.step c5
      have k5 := k4.thru c5
      have kr5 := kr4.thru c5
      clear k4 kr4 okv4 c5 x0 x1 x2 x3 x4 x5
      have x4 : v5.cell? ⟨v1.heap.size, 4, none⟩ = some (.int .i64 lo2) := k5.at_ rfl
      have x5 : v5.cell? ⟨v1.heap.size, 5, none⟩ = some (.int .i64 hi2) := k5.at_ rfl
      have x2 : v5.cell? ⟨w1.heap.size, 2, none⟩ = some (.int .i64 T) := kr5.at_ rfl
      go_wp2_with fail
      refine (HV.out _ okv5).mono ?_
      rintro E v6 ⟨rfl, c6⟩
      have ok6 := ok1.step (okv5.step c6)
      go_wp2_with fail
      go_ret
      exact ⟨rfl, ok6⟩
theorem splitSums_walk (A : Option Addr) (n c : Nat) (l : List Int) (k : Int) (w : World) (_ : n ≤ c) (_ : n ≤ maxLen) (hl : Reads w w.heap.size 1 A n (ints l)) (hI : ∀ x ∈ l, I64 x) (hk : I64 k) (hK : Consts w) (h0 : 0 < w.heap.size) :
    Calls Tryd.prog 3 #[.slice A n c, .int .i64 k] w fun E W' => E = .returned (.bool true) ∧ Below w.heap.size w W' := splitSums_any A n c l k w hl hI hk hK h0
end Go.Proofs.YtkchalnohkfhbaaDoor
