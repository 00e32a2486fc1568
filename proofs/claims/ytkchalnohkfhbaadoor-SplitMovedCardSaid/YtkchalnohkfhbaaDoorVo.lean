/- The walk of the law SplitMoved. Conditions: the round constants lie in their variable; the list's numbers and the other one have 64 bits. -/
import Derived.Test.YtkchalnohkfhbaaDoorVn
set_option linter.unusedSimpArgs false
set_option linter.unusedVariables false
namespace Go.Proofs.YtkchalnohkfhbaaDoor
open Go.RowKit Go.Shelf Go

theorem leftV_moved (s : ByteArray) (p : List Int) (lo hi k : Int) (a n : Nat) (t : Int) : leftV s p (lo + k) (hi + k) a n (t + (n : Int) * k) = leftV s p lo hi a n t + ((n / 2 : Nat) : Int) * k := by
  have e1 : (n : Int) = ((n / 2 : Nat) : Int) + ((n - n / 2 : Nat) : Int) := by omega
  have e2 : (n : Int) * k = ((n / 2 : Nat) : Int) * k + ((n - n / 2 : Nat) : Int) * k := by rw [← Int.add_mul, ← e1]
  have f1 : loB (lo + k) (hi + k) (t + (n : Int) * k) n = loB lo hi t n + ((n / 2 : Nat) : Int) * k := by
    unfold loB
    rw [e2, Int.mul_add, Int.mul_add]
    generalize ((n / 2 : Nat) : Int) * lo = x1 at *
    generalize ((n - n / 2 : Nat) : Int) * hi = x2 at *
    generalize ((n / 2 : Nat) : Int) * k = x3 at *
    generalize ((n - n / 2 : Nat) : Int) * k = x4 at *
    omega
  have f2 : hiB (lo + k) (hi + k) (t + (n : Int) * k) n = hiB lo hi t n + ((n / 2 : Nat) : Int) * k := by
    unfold hiB
    rw [e2, Int.mul_add, Int.mul_add]
    generalize ((n / 2 : Nat) : Int) * hi = x1 at *
    generalize ((n - n / 2 : Nat) : Int) * lo = x2 at *
    generalize ((n / 2 : Nat) : Int) * k = x3 at *
    generalize ((n - n / 2 : Nat) : Int) * k = x4 at *
    omega
  unfold leftV drawV
  rw [f1, f2]
  generalize ((n / 2 : Nat) : Int) * k = x3 at *
  generalize loB lo hi t n = b1 at *
  generalize hiB lo hi t n = b2 at *
  rw [show b2 + x3 - (b1 + x3) + 1 = b2 - b1 + 1 by omega]
  generalize ((wordN s (p ++ [(a : Int), (n : Int)]) 0 % (b2 - b1 + 1).toNat : Nat) : Int) = z
  omega
theorem parts_moved (s : ByteArray) (p : List Int) (lo hi k : Int) (n : Nat) : ∀ (a : Nat) (t : Int), parts (leftV s p (lo + k) (hi + k)) a n (t + (n : Int) * k) = (parts (leftV s p lo hi) a n t).map (· + k) := by
  induction n using Nat.strongRecOn with
  | ind n ih =>
    intro a t
    by_cases h : 2 ≤ n
    · rw [parts_two _ a n _ h, parts_two _ a n t h, leftV_moved, List.map_append, ih _ (by omega)]
      have e2 : (n : Int) * k = ((n / 2 : Nat) : Int) * k + ((n - n / 2 : Nat) : Int) * k := by
        rw [← Int.add_mul]
        congr 1
        omega
      have e3 : t + (n : Int) * k - (leftV s p lo hi a n t + ((n / 2 : Nat) : Int) * k) = (t - leftV s p lo hi a n t) + ((n - n / 2 : Nat) : Int) * k := by
        rw [e2]
        generalize ((n / 2 : Nat) : Int) * k = x3
        generalize ((n - n / 2 : Nat) : Int) * k = x4
        omega
      rw [e3, ih _ (by omega)]
    · rcases (show n = 0 ∨ n = 1 by omega) with rfl | rfl
      · rw [parts_none, parts_none]; rfl
      · rw [parts_one, parts_one]; simp
theorem parts_bound {s : ByteArray} {p : List Int} {lo hi : Int} (hlh : lo ≤ hi) (n : Nat) : ∀ (a : Nat) (t : Int), (n : Int) * lo ≤ t → t ≤ (n : Int) * hi → ∀ y ∈ parts (leftV s p lo hi) a n t, lo ≤ y ∧ y ≤ hi := by
  induction n using Nat.strongRecOn with
  | ind n ih =>
    intro a t h0 h1 y hy
    by_cases h : 2 ≤ n
    · rw [parts_two _ a n _ h] at hy
      obtain ⟨c1, -, c3⟩ := half_bounds hlh h0 h1
      have hd := drawV_in s (p ++ [(a : Int), (n : Int)]) c1
      obtain ⟨d1, d2, d3, d4⟩ := c3 _ hd.1 hd.2
      rcases List.mem_append.1 hy with hy | hy
      · exact ih _ (by omega) a _ d1 d2 y hy
      · exact ih _ (by omega) _ _ d3 d4 y hy
    · rcases (show n = 0 ∨ n = 1 by omega) with rfl | rfl
      · rw [parts_none] at hy; cases hy
      · rw [parts_one, List.mem_singleton] at hy
        subst hy
        omega
set_option maxRecDepth 100000 in
set_option maxHeartbeats 16000000 in
theorem splitMoved_any (A : Option Addr) (n c : Nat) (l : List Int) (by_ : Int) (w : World) (hl : Reads w w.heap.size 1 A n (ints l)) (hI : ∀ x ∈ l, I64 x) (hby : I64 by_) (hK : Consts w) (h0 : 0 < w.heap.size) :
    Calls Tryd.prog 6 #[.slice A n c, .int .i64 by_] w fun E W' => E = .returned (.bool true) ∧ Below w.heap.size w W' := by
  have hr1 := rAt_lt l 1 13 (by omega)
  have hr2 := rAt_lt l 2 7 (by omega)
  have hr3 := rAt_lt l 3 12 (by omega)
  have hr4 := rAt_lt l 4 4 (by omega)
  have HM := Lib.hid (made_split A n c l w hl hI)
  have HK := Lib.hid hK
  have hk := around_lt by_ 2000 (by omega)
  have HAR : Hid (∀ W, Calls Tryd.prog 13 #[.int .i64 by_, .int .i64 2000] W fun e w' => e = .returned (.int .i64 (around by_ 2000)) ∧ w' = W) := Lib.hid fun W => around_any by_ 2000 W hby.1 hby.2 (by omega) (by omega)
  generalize around by_ 2000 = kk at *
  clear hl hI hK hby
  go_enter Tryd.func6, Tryd.ntmps6
  go_wp2_with fail
  refine HM.out.mono ?_
  rintro E w1 ⟨x, P, q, d, p, T, m, lo, hi, rfl, hx0, hx1, hm, hlo, hhi, hq, hp, hrd, ht0, ht1, b1⟩
  have ok1 : Ok w w1 := b1
  generalize rAt l 1 13 = r1 at *
  generalize rAt l 2 7 = r2 at *
  generalize rAt l 3 12 = r3 at *
  generalize rAt l 4 4 = r4 at *
  have hq3 : q ≤ 3 := by omega
  have hpl : p.length = q := hrd.int_len
  have hm12 : m ≤ 12 := by omega
  have hlb : -2 ≤ lo ∧ lo ≤ 4 := by omega
  have hhb : lo ≤ hi ∧ hi ≤ lo + 11 := by omega
  have hs : (seedOf x).size ≤ 32 := seedOf_le x
  have hI0 : ∀ y ∈ p, I64 y := fun y hy => by have := hp y hy; unfold I64; omega
  obtain ⟨k, hk2⟩ : ∃ k, k = kk - 1000 := ⟨_, rfl⟩
  have hkb : -1000 ≤ k ∧ k < 1000 := by omega
  have hnet : ∀ W, Ok w1 W → Net (seedOf x) P q p W := fun W hW => by
    have hr := hrd.below hW
    exact ⟨hr.more hW.size, hI0, by omega, by omega, (ok1.step hW).consts HK.out h0, (ok1.step hW).pos h0⟩
  have hmu : ∀ u : Int, -10000 ≤ u → u ≤ 10000 → -120000 ≤ (m : Int) * u ∧ (m : Int) * u ≤ 120000 := fun u h1 h2 => by
    have e1 : (m : Int) * (-10000) ≤ (m : Int) * u := Int.mul_le_mul_of_nonneg_left h1 (by omega)
    have e2 : (m : Int) * u ≤ (m : Int) * 10000 := Int.mul_le_mul_of_nonneg_left h2 (by omega)
    omega
  obtain ⟨XS, hXS⟩ : ∃ XS, XS = parts (leftV (seedOf x) p lo hi) 0 m T := ⟨_, rfl⟩
  have hXL : XS.length = m := by rw [hXS]; exact parts_len _ m 0 T
  have hXB : ∀ y ∈ XS, lo ≤ y ∧ y ≤ hi := by rw [hXS]; exact parts_bound hhb.1 m 0 T ht0 ht1
  have HA : Hid (∀ W, Ok w1 W → Calls Tryd.prog 8 #[spV (seedOf x) P q d T (m : Int) lo hi] W fun E W' => ∃ v, E = .returned (.tuple #[v, .int .i64 0]) ∧ W'.ownsRow W.heap.size 3 1 v m (ints XS) ∧ Below W.heap.size W W') := Lib.hid fun W hW => by
    rw [hXS]
    exact all_any (c := d) (hnet W hW) (T := T) (lo := lo) (hi := hi) (m := m) ⟨hs, by omega, by omega, by omega, by omega, by omega, hhb.1, ht0, ht1⟩ (made_halved hx0 hx1 hq3 (by omega) hp _ _ lo hi (by omega) hhb.1 (by omega) (by omega)) (made_root hm12 ht0 ht1)
  have HB : Hid (∀ W, Ok w1 W → Calls Tryd.prog 8 #[spV (seedOf x) P q d (T + (m : Int) * k) (m : Int) (lo + k) (hi + k)] W fun E W' => ∃ v, E = .returned (.tuple #[v, .int .i64 0]) ∧ W'.ownsRow W.heap.size 3 1 v m (ints (XS.map (· + k))) ∧ Below W.heap.size W W') := Lib.hid fun W hW => by
    rw [hXS, ← parts_moved]
    have g0 : (m : Int) * (lo + k) ≤ T + (m : Int) * k := by rw [Int.mul_add]; omega
    have g1 : T + (m : Int) * k ≤ (m : Int) * (hi + k) := by rw [Int.mul_add]; omega
    exact all_any (c := d) (hnet W hW) (T := T + (m : Int) * k) (lo := lo + k) (hi := hi + k) (m := m) ⟨hs, by omega, by omega, by omega, by omega, by omega, by omega, g0, g1⟩ (made_halved hx0 hx1 hq3 (by omega) hp _ _ (lo + k) (hi + k) (by omega) (by omega) (by omega) (by omega)) (made_root hm12 g0 g1)
  have hmk := hmu k (by omega) (by omega)
  have hml := hmu lo (by omega) (by omega)
  have hmh := hmu hi (by omega) (by omega)
  obtain ⟨Z, hZ⟩ : ∃ Z, Z = (m : Int) * k := ⟨_, rfl⟩
  have q1 : IntKind.i64.wrap (kk - 1000) = k := by rw [hk2]; exact wrap_small (by omega) (by omega)
  have q2 : IntKind.i64.wrap (lo + k) = lo + k := wrap_small (by omega) (by omega)
  have q3 : IntKind.i64.wrap (hi + k) = hi + k := wrap_small (by omega) (by omega)
  have q4 : IntKind.i64.wrap ((m : Int) * k) = Z := by rw [hZ]; exact wrap_small (by omega) (by omega)
  have q4w : RowKit.wrap64 ((m : Int) * k) = Z := (IntWalk.i64_left _).symm.trans q4
  rw [← hZ] at HB hmk
  have q5 : IntKind.i64.wrap (T + Z) = T + Z := wrap_small (by omega) (by omega)
  have HO := Lib.hid (fun T N lo hi W => own_any (seedOf x) P q d T N lo hi W)
  have HV := Lib.hid (fun W (hW : Ok w1 W) => splitLives_any W ((ok1.step hW).consts HK.out h0) ((ok1.step hW).pos h0))
  have HX := Lib.hid (And.intro hXL (And.intro hXB (And.intro hlb (And.intro hhb hkb))))
  generalize seedOf x = s at *
  clear hmu hmk hml hmh hZ hk2 hk hXS hXL hXB hp hpl hrd hnet hI0 hs hx0 hx1 hm hlo hhi hq hr1 hr2 hr3 hr4 ht0 ht1 hlb hhb hq3 b1 hkb
  have z1 : (w1.alloc (.cells (spC s P q d T (m : Int) lo hi) 24)).heap.size = w1.heap.size + 1 := by simp
  have k3 := Blk.new w1 24 (spC s P q d T (m : Int) lo hi)
  have ok3 := (Ok.refl w1).alloc (.cells (spC s P q d T (m : Int) lo hi) 24)
  go_wp2_with fail
  refine (HAR.out _).mono ?_
  rintro E wq ⟨rfl, hwq⟩
  have HWQ := Lib.hid hwq
  clear hwq
  have k4 : Blk ((w1.alloc (.cells (spC s P q d T (m : Int) lo hi) 24)).alloc (.cells (spC s P q d T (m : Int) lo hi) 24)) (w1.heap.size + 1) 24 (spC s P q d T (m : Int) lo hi) := Blk.new' z1.symm
  go_upto_region 3 with fail
  rw [HWQ.out]
  clear HWQ
  replace k3 := k3.alloc (.cells (spC s P q d T (m : Int) lo hi) 24)
  replace ok3 := ok3.alloc (.cells (spC s P q d T (m : Int) lo hi) 24)
  go_upto_region 4 with fail
  generalize (w1.alloc (.cells (spC s P q d T (m : Int) lo hi) 24)).alloc (.cells (spC s P q d T (m : Int) lo hi) 24) = w2 at *
  clear z1
  have a2 : w2.cell? ⟨w1.heap.size, 2, none⟩ = some (.int .i64 T) := k3.at_ rfl
  have a3 : w2.cell? ⟨w1.heap.size, 3, none⟩ = some (.int .i64 (m : Int)) := k3.at_ rfl
  have a4 : w2.cell? ⟨w1.heap.size, 4, none⟩ = some (.int .i64 lo) := k3.at_ rfl
  have a5 : w2.cell? ⟨w1.heap.size, 5, none⟩ = some (.int .i64 hi) := k3.at_ rfl
  have b4 : w2.cell? ⟨w1.heap.size + 1, 4, none⟩ = some (.int .i64 lo) := k4.at_ rfl
  have b5 : w2.cell? ⟨w1.heap.size + 1, 5, none⟩ = some (.int .i64 hi) := k4.at_ rfl
  have b2 : w2.cell? ⟨w1.heap.size + 1, 2, none⟩ = some (.int .i64 T) := k4.at_ rfl
  have f4 := k4.frozen 4
  have f5 := k4.frozen 5
  have f2 := k4.frozen 2
  go_upto_region 7 with fail
  have k4' : Blk (((w2.setCell ⟨w1.heap.size + 1, 4, none⟩ (.int .i64 (lo + k))).setCell ⟨w1.heap.size + 1, 5, none⟩ (.int .i64 (hi + k))).setCell ⟨w1.heap.size + 1, 2, none⟩ (.int .i64 (T + Z))) (w1.heap.size + 1) 24 (spC s P q d (T + Z) (m : Int) (lo + k) (hi + k)) := ((k4.set_ 4 (.int .i64 (lo + k))).set_ 5 (.int .i64 (hi + k))).set_ 2 (.int .i64 (T + Z))
  have k3' := ((k3.far (p := ⟨w1.heap.size + 1, 4, none⟩) (by simp) (.int .i64 (lo + k))).far (p := ⟨w1.heap.size + 1, 5, none⟩) (by simp) (.int .i64 (hi + k))).far (p := ⟨w1.heap.size + 1, 2, none⟩) (by simp) (.int .i64 (T + Z))
  have ok5 : Ok w1 (((w2.setCell ⟨w1.heap.size + 1, 4, none⟩ (.int .i64 (lo + k))).setCell ⟨w1.heap.size + 1, 5, none⟩ (.int .i64 (hi + k))).setCell ⟨w1.heap.size + 1, 2, none⟩ (.int .i64 (T + Z))) := (((show Below w1.heap.size w1 w2 from ok3).setCell (Nat.le_succ _) _).setCell (Nat.le_succ _) _).setCell (Nat.le_succ _) _
  clear k4 k3 ok3 a2 a3 a4 a5 b2 b4 b5 f2 f4 f5
  generalize ((w2.setCell ⟨w1.heap.size + 1, 4, none⟩ (.int .i64 (lo + k))).setCell ⟨w1.heap.size + 1, 5, none⟩ (.int .i64 (hi + k))).setCell ⟨w1.heap.size + 1, 2, none⟩ (.int .i64 (T + Z)) = w5 at *
  have b0 : w5.cell? ⟨w1.heap.size, 0, none⟩ = some (.string s) := k3'.at_ rfl
  have b1 : w5.cell? ⟨w1.heap.size, 1, none⟩ = some (.slice P q d) := k3'.at_ rfl
  have b2 : w5.cell? ⟨w1.heap.size, 2, none⟩ = some (.int .i64 T) := k3'.at_ rfl
  have b3 : w5.cell? ⟨w1.heap.size, 3, none⟩ = some (.int .i64 (m : Int)) := k3'.at_ rfl
  have b4 : w5.cell? ⟨w1.heap.size, 4, none⟩ = some (.int .i64 lo) := k3'.at_ rfl
  have b5 : w5.cell? ⟨w1.heap.size, 5, none⟩ = some (.int .i64 hi) := k3'.at_ rfl
  go_wp2_with fail
  refine (HO.out T (m : Int) lo hi _).mono ?_
  rintro E w6 ⟨rfl, b6⟩
  have ok6 := ok5.step b6
  have j5 := k4'.thru b6
  clear b6 k3' k4' ok5 b0 b1 b2 b3 b4 b5
  go_wp2_with fail
  refine (HA.out _ ok6).mono ?_
  rintro E w7 ⟨va, rfl, oa, b7⟩
  have ok7 := ok6.step b7
  have k5 := j5.thru b7
  obtain ⟨A1, c1, rfl, -⟩ := own_reads1 oa
  clear b7 j5 ok6
  have b0 : w7.cell? ⟨w1.heap.size + 1, 0, none⟩ = some (.string s) := k5.at_ rfl
  have b1 : w7.cell? ⟨w1.heap.size + 1, 1, none⟩ = some (.slice P q d) := k5.at_ rfl
  have b2 : w7.cell? ⟨w1.heap.size + 1, 2, none⟩ = some (.int .i64 (T + Z)) := k5.at_ rfl
  have b3 : w7.cell? ⟨w1.heap.size + 1, 3, none⟩ = some (.int .i64 (m : Int)) := k5.at_ rfl
  have b4 : w7.cell? ⟨w1.heap.size + 1, 4, none⟩ = some (.int .i64 (lo + k)) := k5.at_ rfl
  have b5 : w7.cell? ⟨w1.heap.size + 1, 5, none⟩ = some (.int .i64 (hi + k)) := k5.at_ rfl
  go_wp2_with fail
  refine (HO.out (T + Z) (m : Int) (lo + k) (hi + k) _).mono ?_
  rintro E w8 ⟨rfl, b8⟩
  have ok8 := ok7.step b8
  have oa8 := own_below oa b8
  clear b8 k5 ok7 oa b0 b1 b2 b3 b4 b5
  go_wp2_with fail
  refine (HB.out _ ok8).mono ?_
  rintro E w9 ⟨vb, rfl, ob, b9⟩
  have ok9 := ok8.step b9
  have oa9 := own_below oa8 b9
  obtain ⟨A2, c2, rfl, -⟩ := own_reads1 ob
  have HR1 := Lib.hid (Reads.of_own oa9)
  have HR2 := Lib.hid (Reads.of_own ob)
  clear b9 ok8 oa8 oa9 ob
  have g1 : ((m : Int) != (m : Int)) = false := by simp
  go_wp2_with fail
  go_loopw [12] (fun i wr => ∃ j : Nat, j ≤ m ∧ i = .int .i64 (j : Int) ∧ ∃ q, wr = w9.drewN q) (fun i _ => m - (intOf i).toNat)
  case atStart => exact ⟨0, by omega, rfl, 0, rfl⟩
  case round =>
    obtain ⟨j, hj, rfl, dq, rfl⟩ := hrel
    by_cases hlt : j < m
    · have hji : (j : Int) < (m : Int) := by omega
      obtain ⟨ad1, rfl, -, hl1, hc1⟩ := HR1.out.int_at hlt
      obtain ⟨ad2, rfl, -, -, hc2⟩ := HR2.out.int_at hlt
      have e1 : (XS.map (· + k))[j]?.getD 0 = XS[j]?.getD 0 + k := by
        rw [List.getElem?_map, List.getElem?_eq_getElem hl1]
        rfl
      rw [e1] at hc2
      have hb := HX.out.2.1 (XS[j]?.getD 0) (by rw [List.getElem?_eq_getElem hl1]; exact List.getElem_mem _)
      generalize XS[j]?.getD 0 = u at *
      have q6 : IntKind.i64.wrap (u + k) = u + k := wrap_small (by have := HX.out.2.2; omega) (by have := HX.out.2.2; omega)
      have g2 : (u + k != u + k) = false := by simp
      clear e1 hl1
      have HC := Lib.hid (And.intro hc1 hc2)
      go_upto_region 14 with fail
      obtain ⟨hx1, hx2⟩ := HC.out
      go_quiet (fail)
      go_wp2_with fail
      go_roundw
      case rel => exact ⟨j + 1, by omega, by go_num, _, rfl⟩
      case measure => simp only [intOf]; omega
    · have hji : ¬ (j : Int) < (m : Int) := by omega
      have okq : Ok w1 (w9.drewN dq) := Ok.drewN ok9 dq
      generalize w9.drewN dq = wq at *
      go_wp2_with fail
      refine (HV.out _ okq).mono ?_
      rintro E v3 ⟨rfl, c3⟩
      have okv3 := ok1.step (okq.step c3)
      go_wp2_with fail
      go_ret
      exact ⟨rfl, okv3⟩
theorem splitMoved_walk (A : Option Addr) (n c : Nat) (l : List Int) (by_ : Int) (w : World) (_ : n ≤ c) (_ : n ≤ maxLen) (hl : Reads w w.heap.size 1 A n (ints l)) (hI : ∀ x ∈ l, I64 x) (hby : I64 by_) (hK : Consts w) (h0 : 0 < w.heap.size) :
    Calls Tryd.prog 6 #[.slice A n c, .int .i64 by_] w fun E W' => E = .returned (.bool true) ∧ Below w.heap.size w W' := splitMoved_any A n c l by_ w hl hI hby hK h0
end Go.Proofs.YtkchalnohkfhbaaDoor
