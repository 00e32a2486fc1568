/- Loss, of the program and of the reference: the cost times the difference of the counts, or the error. -/
import Derived.Test.YtbofbihpmhkppaaNc
namespace Go.Proofs.Ytbofbihpmhkppaa
open Go.RowKit

/-- by how much two weights differ: an exponent -/
def gapN (c d k x : Int) : Nat := (k * (if dist c x < dist d x then dist d x - dist c x else dist c x - dist d x)).toNat
def absD (a b : Int) : Int := if a < b then b - a else a - b
theorem dist_bound {c m x : Int} (h1 : 0 ≤ c) (h2 : c ≤ m) (h3 : 0 ≤ x) (h4 : x ≤ m) : 0 ≤ dist c x ∧ dist c x ≤ m := by unfold dist; split <;> omega
theorem gap_le {c d m k x : Int} (hc : Okay c m k) (hd : Okay d m k) (h3 : 0 ≤ x) (h4 : x ≤ m) : (gapN c d k x : Int) ≤ k * absD c d ∧ gapN c d k x ≤ 38 := by
  have a := dist_bound hc.c1 hc.c2 h3 h4
  have b := dist_bound hd.c1 hd.c2 h3 h4
  have hk := hc.k1
  have e : ∃ D : Int, D = (if dist c x < dist d x then dist d x - dist c x else dist c x - dist d x) ∧ 0 ≤ D ∧ D ≤ absD c d ∧ D ≤ m := by
    refine ⟨_, rfl, ?_⟩
    unfold absD
    have := hc.c1; have := hc.c2; have := hd.c1; have := hd.c2
    unfold dist at *
    (repeat' split) <;> omega
  obtain ⟨D, hD, h0, h1, h2⟩ := e
  unfold gapN
  rw [← hD]
  have n0 : 0 ≤ k * D := Int.mul_nonneg (by omega) h0
  have n1 : k * D ≤ k * absD c d := Int.mul_le_mul_of_nonneg_left h1 (by omega)
  have n2 : k * D ≤ k * m := Int.mul_le_mul_of_nonneg_left h2 (by omega)
  have n3 : k * (m + 1) = k * m + k := by rw [Int.mul_add]; omega
  have := hc.km
  constructor <;> omega
theorem gap_at {c d m k : Int} (hc : Okay c m k) : (gapN c d k c : Int) = k * absD c d := by
  have hk := hc.k1
  have e : (if dist c c < dist d c then dist d c - dist c c else dist c c - dist d c) = absD c d := by
    unfold absD dist; (repeat' split) <;> omega
  unfold gapN
  rw [e]
  have : 0 ≤ absD c d := by unfold absD; split <;> omega
  have := Int.mul_nonneg (show 0 ≤ k by omega) this
  omega
/-- the weights' quotient is a power of 2 -/
theorem wt_quot {c d m k x : Int} (hc : Okay c m k) (hd : Okay d m k) (h3 : 0 ≤ x) (h4 : x ≤ m) :
    (dist c x ≤ dist d x → wt c m k x = wt d m k x * 2 ^ gapN c d k x) ∧ (dist d x ≤ dist c x → wt d m k x = wt c m k x * 2 ^ gapN c d k x) := by
  have a := exp_bound hc h3 h4
  have b := exp_bound hd h3 h4
  have hk := hc.k1
  constructor
  · intro h
    have e : (k * (m - dist c x)).toNat = (k * (m - dist d x)).toNat + gapN c d k x := by
      have : k * (if dist c x < dist d x then dist d x - dist c x else dist c x - dist d x) = k * (m - dist c x) - k * (m - dist d x) := by
        rw [← Int.mul_sub]; congr 1; split <;> omega
      have h0 : 0 ≤ k * (dist d x - dist c x) := Int.mul_nonneg (by omega) (by omega)
      have h1 : k * (dist d x - dist c x) = k * (m - dist c x) - k * (m - dist d x) := by rw [← Int.mul_sub]; congr 1; omega
      unfold gapN; omega
    unfold wt
    rw [e, Int.pow_add]
    generalize (if x = 0 ∨ x = m then (2 : Int) ^ k.toNat else 2 ^ k.toNat - 1) = y
    rw [Int.mul_assoc, Int.mul_comm (2 ^ gapN c d k x) y, Int.mul_assoc]
  · intro h
    have e : (k * (m - dist d x)).toNat = (k * (m - dist c x)).toNat + gapN c d k x := by
      have : k * (if dist c x < dist d x then dist d x - dist c x else dist c x - dist d x) = k * (m - dist d x) - k * (m - dist c x) := by
        rw [← Int.mul_sub]; congr 1; split <;> omega
      have h0 : 0 ≤ k * (dist c x - dist d x) := Int.mul_nonneg (by omega) (by omega)
      have h1 : k * (dist c x - dist d x) = k * (m - dist d x) - k * (m - dist c x) := by rw [← Int.mul_sub]; congr 1; omega
      unfold gapN; omega
    unfold wt
    rw [e, Int.pow_add]
    generalize (if x = 0 ∨ x = m then (2 : Int) ^ k.toNat else 2 ^ k.toNat - 1) = y
    rw [Int.mul_assoc, Int.mul_comm (2 ^ gapN c d k x) y, Int.mul_assoc]
theorem wt_bound {c m k x : Int} (h : Okay c m k) (h3 : 0 ≤ x) (h4 : x ≤ m) : 1 ≤ wt c m k x ∧ wt c m k x ≤ 576460752303423488 := by
  have a := exp_bound h h3 h4
  have hk := h.k1
  have hb1 := pow_bound (k * (m - dist c x)).toNat (by omega)
  have hk2 := h.k2
  have hb2 := pow_bound k.toNat (by omega)
  have hb3 := pow_bound ((k * (m - dist c x)).toNat + k.toNat) (by omega)
  rw [Int.pow_add] at hb3
  have h2 : 2 ≤ (2 : Int) ^ k.toNat := by
    have : (2 : Nat) ^ 1 ≤ 2 ^ k.toNat := Nat.pow_le_pow_right (by omega) (by omega)
    have e : ((2 : Int) ^ k.toNat) = ((2 ^ k.toNat : Nat) : Int) := by simp
    rw [e]; omega
  unfold wt
  generalize (2 : Int) ^ (k * (m - dist c x)).toNat = A at *
  generalize (2 : Int) ^ k.toNat = B at *
  split
  · exact ⟨hb3.1, hb3.2⟩
  · have e : A * (B - 1) = A * B - A := by rw [Int.mul_sub]; omega
    have := Int.mul_le_mul_of_nonneg_left h2 (show 0 ≤ A by omega)
    omega

/-- the least and the greater of the two weights, and the steps between -/
theorem step_lt {p q : Int} {D t : Nat} (hp : 1 ≤ p) (h : q = p * 2 ^ D) (ht : t < D) : p * 2 ^ t < q ∧ p * 2 ^ t * 2 = p * 2 ^ (t + 1) := by
  constructor
  · rw [h]
    refine Int.mul_lt_mul_of_pos_left ?_ (by omega)
    have : (2 : Nat) ^ t < 2 ^ D := Nat.pow_lt_pow_right (by omega) ht
    have e : ∀ n : Nat, ((2 : Int) ^ n) = ((2 ^ n : Nat) : Int) := by simp
    rw [e, e]; omega
  · rw [Int.pow_succ, Int.mul_assoc]

/-- the loss after j numbers -/
def lossTo (c d k : Int) : Nat → Int
  | 0 => 0
  | j + 1 => if lossTo c d k j < gapN c d k j then gapN c d k j else lossTo c d k j
theorem lossTo_bound {c d m k : Int} (hc : Okay c m k) (hd : Okay d m k) : ∀ j : Nat, (j : Int) ≤ m + 1 → 0 ≤ lossTo c d k j ∧ lossTo c d k j ≤ k * absD c d ∧ (c < j → lossTo c d k j = k * absD c d)
  | 0, _ => ⟨Int.le_refl _, by
      have : 0 ≤ absD c d := by unfold absD; split <;> omega
      exact Int.mul_nonneg (by have := hc.k1; omega) this, fun h => by have := hc.c1; omega⟩
  | j + 1, h => by
    obtain ⟨h1, h2, h3⟩ := lossTo_bound hc hd j (by omega)
    have g := gap_le hc hd (x := j) (by omega) (by omega)
    have gc := gap_at (d := d) hc
    unfold lossTo
    refine ⟨by split <;> omega, by split <;> omega, fun hlt => ?_⟩
    rcases Int.lt_or_le c j with hj | hj
    · have := h3 hj
      split <;> omega
    · have hcj : c = j := by omega
      rw [hcj] at gc
      have gc' : (gapN c d k j : Int) = k * absD c d := by rw [hcj]; exact gc
      split <;> omega
theorem lossTo_all {c d m k : Int} (hc : Okay c m k) (hd : Okay d m k) : lossTo c d k (m + 1).toNat = k * absD c d := by
  have := hc.m1
  exact (lossTo_bound hc hd (m + 1).toNat (by omega)).2.2 (by have := hc.c2; omega)

/-- one step of the program's inner loop -/
theorem okB_of {c m k : Int} (h : Okay c m k) : okB c m k = true := okB_iff.2 h
theorem below_more {b : Nat} {w w' : World} (h : Below b w w') (hb : b ≤ w.heap.size) (o : Obj) : Below b w (w'.alloc o) := h.alloc (Nat.le_trans hb h.size) o

/-- what one test of the inner loops finds: the lesser weight p, the greater q -/
structure Pair (p q : Int) (D : Nat) : Prop where
  p1 : 1 ≤ p
  q1 : q ≤ 576460752303423488
  e : q = p * 2 ^ D
theorem Pair.lt {p q : Int} {D t : Nat} (h : Pair p q D) (ht : t < D) : 0 ≤ p * 2 ^ t ∧ p * 2 ^ t < q := by
  refine ⟨Int.mul_nonneg (by have := h.p1; omega) (Int.le_of_lt (Int.pow_pos (by omega))), (step_lt h.p1 h.e ht).1⟩
theorem Pair.done {p q : Int} {D : Nat} (h : Pair p q D) : q ≤ p * 2 ^ D ∧ p * 2 ^ D ≤ 576460752303423488 ∧ 0 ≤ p * 2 ^ D := by
  have := h.e; have := h.q1
  have : 0 ≤ p * 2 ^ D := Int.mul_nonneg (by have := h.p1; omega) (Int.le_of_lt (Int.pow_pos (by omega)))
  omega
theorem pair_cases {c d m k x : Int} (hc : Okay c m k) (hd : Okay d m k) (h3 : 0 ≤ x) (h4 : x ≤ m) :
    ∃ p q, (if wt d m k x < wt c m k x then wt d m k x else wt c m k x) = p ∧ (if wt d m k x > wt c m k x then wt d m k x else wt c m k x) = q ∧ Pair p q (gapN c d k x) := by
  have q := wt_quot hc hd h3 h4
  have b1 := wt_bound hc h3 h4
  have b2 := wt_bound hd h3 h4
  refine ⟨_, _, rfl, rfl, ?_⟩
  have e2 : (1 : Int) ≤ 2 ^ gapN c d k x := by
    have h1 : 1 ≤ (2 : Nat) ^ gapN c d k x := Nat.one_le_two_pow
    have e : ((2 : Int) ^ gapN c d k x) = ((2 ^ gapN c d k x : Nat) : Int) := by simp
    rw [e]; omega
  rcases Int.le_total (dist c x) (dist d x) with h | h
  · have e := q.1 h
    have : wt d m k x * 1 ≤ wt d m k x * 2 ^ gapN c d k x := Int.mul_le_mul_of_nonneg_left e2 (by omega)
    rw [← e] at this
    by_cases hlt : wt d m k x < wt c m k x
    · rw [if_pos hlt, if_neg (by omega)]; exact ⟨b2.1, b1.2, e⟩
    · have he : wt c m k x = wt d m k x := by omega
      rw [if_neg hlt, if_neg (by omega)]; exact ⟨b1.1, b1.2, by rw [he] at e ⊢; exact e⟩
  · have e := q.2 h
    have : wt c m k x * 1 ≤ wt c m k x * 2 ^ gapN c d k x := Int.mul_le_mul_of_nonneg_left e2 (by omega)
    rw [← e] at this
    by_cases hlt : wt c m k x < wt d m k x
    · rw [if_neg (by omega), if_pos (by omega)]; exact ⟨b1.1, b2.2, e⟩
    · have he : wt c m k x = wt d m k x := by omega
      rw [if_neg (by omega), if_neg (by omega)]; exact ⟨b1.1, b1.2, by rw [← he] at e; exact e⟩

set_option maxRecDepth 100000 in
set_option maxHeartbeats 4000000 in
theorem loss_yes (c d m k : Int) (hc : Okay c m k) (hd : Okay d m k) (w : World) :
    Calls Try.prog 21 #[.int .i64 c, .int .i64 d, .int .i64 m, .int .i64 k] w fun e W' => e = .returned (.tuple #[.int .i64 (k * absD c d), .int .i64 0]) ∧ Below w.heap.size w W' := by
  have hv1 := fun W => valid_any c m k W
  have hv2 := fun W => valid_any d m k W
  rw [okB_of hc] at hv1
  rw [okB_of hd] at hv2
  have HV1 := Lib.hid hv1
  have HV2 := Lib.hid hv2
  clear hv1 hv2
  have hm1 := hc.m1
  have hm2 := hc.m2
  go_enter Try.func21, Try.ntmps21
  go_wp2_with fail
  refine (HV1.out _).mono ?_
  rintro e w' ⟨rfl, rfl⟩
  go_wp2_with fail
  refine (HV2.out _).mono ?_
  rintro e w' ⟨rfl, rfl⟩
  go_wp2_with fail
  go_region
  all_goals go_wp2_with fail
  go_loopw [14, 38] (fun o i wr => ∃ j : Nat, (j : Int) ≤ m + 1 ∧ i = .int .i64 j ∧ o = .int .i64 (lossTo c d k j) ∧ Below w.heap.size w wr)
    (fun _ i _ => (m + 1 - intOf i).toNat)
  case atStart =>
    refine ⟨0, by omega, rfl, rfl, ?_⟩
    exact (below_more (below_more (below_more (below_more (Below.refl _ w) (by omega) _) (by omega) _) (by omega) _) (by omega) _).drew
  case round =>
    obtain ⟨j, hj, rfl, rfl, hnx⟩ := hrel
    have hlb := lossTo_bound hc hd j hj
    by_cases hlt : (j : Int) < m + 1
    · have hg := gap_le hc hd (x := j) (by omega) (by omega)
      obtain ⟨wo, rfl⟩ : ∃ wo : World, wo = wr := ⟨_, rfl⟩
      obtain ⟨p, q, hp, hq, P⟩ := pair_cases hc hd (x := j) (by omega) (by omega)
      have hmin := fun ts t W => run_min_int2 (P := Try.prog) (w := W) ts t .i64 .i64 (wt c m k j) (wt d m k j)
      have hmax := fun ts t W => run_max_int2 (P := Try.prog) (w := W) ts t .i64 .i64 (wt c m k j) (wt d m k j)
      rw [hp] at hmin
      rw [hq] at hmax
      have p1 := P.p1
      have q1 := P.q1
      have hmax2 := fun ts t W => run_max_int2 (P := Try.prog) (w := W) ts t .i64 .i64 (lossTo c d k j) (gapN c d k j)
      rw [show (if (gapN c d k j : Int) > lossTo c d k j then (gapN c d k j : Int) else lossTo c d k j) = lossTo c d k (j + 1) from rfl] at hmax2
      have HP := Lib.hid hp
      have HQ := Lib.hid hq
      clear hp hq
      go_wp2_with fail
      go_loopw [16] (fun t wr => ∃ n : Nat, n ≤ gapN c d k j ∧ t = .int .i64 n ∧ Below w.heap.size w wr) (fun t _ => gapN c d k j - (intOf t).toNat)
      case atStart => exact ⟨0, by omega, rfl, hnx⟩
      case round =>
        obtain ⟨t, ht, rfl, hny⟩ := hrel
        by_cases htl : t < gapN c d k j
        · have f := P.lt htl
          have hwr : IntKind.i64.wrap (p * 2 ^ t) = p * 2 ^ t := IntWalk.i64_in _ (by omega)
          go_wp2_with fail
          go_region_held3 (fun w' => Below w.heap.size w w') (first | exact hny.drew | exact hny | assumption | (exact below_more (by assumption) (Nat.le_refl _) _)) (first | (go_at_call 54; refine (weight_any _ _ _ _ _ (by first | exact hc | exact hd) (by omega) (by omega)).mono ?_; rintro e w' ⟨rfl, rfl⟩))
          all_goals clear hwr
          all_goals go_wp2_with fail
          all_goals go_roundw
          all_goals
            first
              | (case rel => exact ⟨t + 1, by omega, by go_num, by assumption⟩)
              | (case measure => simp [intOf]; omega)
        · obtain rfl : t = gapN c d k j := by omega
          have f := P.done
          have hwr : IntKind.i64.wrap (p * 2 ^ gapN c d k j) = p * 2 ^ gapN c d k j := IntWalk.i64_in _ (by omega)
          go_wp2_with fail
          go_region_held3 (fun w' => Below w.heap.size w w') (first | exact hny.drew | exact hny | assumption | (exact below_more (by assumption) (Nat.le_refl _) _)) (first | (go_at_call 54; refine (weight_any _ _ _ _ _ (by first | exact hc | exact hd) (by omega) (by omega)).mono ?_; rintro e w' ⟨rfl, rfl⟩))
          all_goals clear hwr
          all_goals go_wp2_with fail
          all_goals go_roundw
          all_goals
            first
              | (case rel => exact ⟨j + 1, by omega, by go_num, rfl, by assumption⟩)
              | (case measure => simp [intOf]; omega)
    · have hjm : j = (m + 1).toNat := by omega
      have HJ := Lib.hid hjm
      clear hjm
      go_wp2_with fail
      go_ret2
      exact ⟨ret_two (congrArg (Value.int .i64) (by rw [HJ.out]; exact lossTo_all hc hd)) rfl, hnx⟩
end Go.Proofs.Ytbofbihpmhkppaa
