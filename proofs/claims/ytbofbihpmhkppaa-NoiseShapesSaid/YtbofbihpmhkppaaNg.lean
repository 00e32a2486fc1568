/- The law NoiseLoss: for every input it returns true. -/
import Derived.Test.YtbofbihpmhkppaaNf
import Derived.Deep.RegionHeld3
namespace Go.Proofs.Ytbofbihpmhkppaa
open Go.RowKit

theorem pow_int (n : Nat) : ((2 : Int) ^ n) = ((2 ^ n : Nat) : Int) := by simp
theorem wt_bound38 {c m k x : Int} (h : Okay c m k) (h3 : 0 ≤ x) (h4 : x ≤ m) : 1 ≤ wt c m k x ∧ wt c m k x ≤ 274877906944 := by
  refine ⟨(wt_bound h h3 h4).1, ?_⟩
  have a := exp_bound h h3 h4
  have hk := h.k1
  have hb1 := pow_bound (k * (m - dist c x)).toNat (by omega)
  have hb2 := pow_bound k.toNat (by omega)
  have e : (2 : Int) ^ (k * (m - dist c x)).toNat * 2 ^ k.toNat ≤ 274877906944 := by
    rw [← Int.pow_add, pow_int]
    have : (2 : Nat) ^ ((k * (m - dist c x)).toNat + k.toNat) ≤ 2 ^ 38 := Nat.pow_le_pow_right (by omega) (by omega)
    have e2 : (2 : Nat) ^ 38 = 274877906944 := by decide
    omega
  unfold wt
  generalize (2 : Int) ^ (k * (m - dist c x)).toNat = A at *
  generalize (2 : Int) ^ k.toNat = B at *
  split
  · exact e
  · have : A * (B - 1) = A * B - A := by rw [Int.mul_sub]; omega
    omega
theorem wt_step {c d m k x : Int} (hc : Okay c m k) (hd : Okay d m k) (h : absD c d ≤ 1) (h3 : 0 ≤ x) (h4 : x ≤ m) : wt c m k x ≤ wt d m k x * 2 ^ k.toNat := by
  have q := wt_quot hc hd h3 h4
  have g := gap_le hc hd h3 h4
  have b1 := wt_bound38 hc h3 h4
  have b2 := wt_bound38 hd h3 h4
  have hk := hc.k1
  have hg : gapN c d k x ≤ k.toNat := by
    have : 0 ≤ absD c d := by unfold absD; split <;> omega
    have : k * absD c d ≤ k * 1 := Int.mul_le_mul_of_nonneg_left h (by omega)
    omega
  have hp : (1 : Int) ≤ 2 ^ k.toNat := (pow_bound k.toNat (by have := hc.k2; omega)).1
  rcases Int.le_total (dist c x) (dist d x) with hd | hd
  · rw [q.1 hd]
    refine Int.mul_le_mul_of_nonneg_left ?_ (by omega)
    rw [pow_int, pow_int]
    have := Nat.pow_le_pow_right (n := 2) (by omega) hg
    omega
  · have e := q.2 hd
    have hp1 : (1 : Int) ≤ 2 ^ gapN c d k x := (pow_bound _ (by omega)).1
    have h1 : wt c m k x * 1 ≤ wt c m k x * 2 ^ gapN c d k x := Int.mul_le_mul_of_nonneg_left hp1 (by omega)
    have h2 : wt d m k x * 1 ≤ wt d m k x * 2 ^ k.toNat := Int.mul_le_mul_of_nonneg_left hp (by omega)
    omega
theorem mul_pow_small {a k : Int} (h1 : 1 ≤ a) (h2 : a ≤ 274877906944) (h3 : 1 ≤ k) (h4 : k ≤ 6) : 0 ≤ a * 2 ^ k.toNat ∧ a * 2 ^ k.toNat ≤ 17592186044416 := by
  have hp : (2 : Int) ^ k.toNat ≤ 64 := by
    rw [pow_int]
    have := Nat.pow_le_pow_right (n := 2) (by omega) (show k.toNat ≤ 6 by omega)
    have : (2 : Nat) ^ 6 = 64 := by decide
    omega
  have hp0 : (0 : Int) ≤ 2 ^ k.toNat := Int.le_of_lt (Int.pow_pos (by omega))
  constructor
  · exact Int.mul_nonneg (by omega) hp0
  · calc a * 2 ^ k.toNat ≤ a * 64 := Int.mul_le_mul_of_nonneg_left hp (by omega)
      _ ≤ _ := by omega

/-- the part of the law behind the list: two hidings that differ by at most one -/
theorem okay_hid {x n k : Int} (h1 : 0 ≤ x) (h2 : x ≤ hidM n k) : Okay x (hidM n k) (hidK k) := by
  obtain ⟨m1, m2, k1, k2, km⟩ := hid_bounds n k
  exact ⟨m1, by omega, k1, by omega, km, h1, h2⟩

/-- what holds while the law runs: its own rows lie where they lay -/
structure KeepT (t : TypeId) (w : World) (B : Nat) (cs : Array Value) (w' : World) : Prop where
  below : Below w.heap.size w w'
  blk : Blk w' B t cs
theorem KeepT.drew {t : TypeId} {w : World} {B : Nat} {cs : Array Value} {w' : World} (h : KeepT t w B cs w') : KeepT t w B cs w'.drew := ⟨h.below.drew, h.blk.drew⟩
theorem KeepT.drewN {t : TypeId} {w : World} {B : Nat} {cs : Array Value} {w' : World} (h : KeepT t w B cs w') (n : Nat) : KeepT t w B cs (w'.drewN n) := ⟨below_drewN' h.below n, h.blk.drewN n⟩
theorem KeepT.trans {t : TypeId} {w : World} {B : Nat} {cs : Array Value} {w1 w2 : World} (h : KeepT t w B cs w1) (k : Below w1.heap.size w1 w2) : KeepT t w B cs w2 :=
  ⟨h.below.trans (k.mono h.below.size), h.blk.below k h.blk.lt⟩
structure Four (w : World) (B : Nat) (cs : Array Value) (j : Nat) (y0 y1 y2 y3 : Int) (w' : World) : Prop where
  keep : KeepT 35 w B cs w'
  x0 : w'.cell? ⟨B, j, none⟩ = some (.int .i64 y0)
  x1 : w'.cell? ⟨B, j + 1, none⟩ = some (.int .i64 y1)
  x2 : w'.cell? ⟨B, j + 2, none⟩ = some (.int .i64 y2)
  x3 : w'.cell? ⟨B, j + 3, none⟩ = some (.int .i64 y3)
theorem Four.of {w : World} {B : Nat} {cs : Array Value} {j : Nat} {y0 y1 y2 y3 : Int} {w' : World} (h : KeepT 35 w B cs w') (h0 : cs[j]? = some (.int .i64 y0)) (h1 : cs[j + 1]? = some (.int .i64 y1)) (h2 : cs[j + 2]? = some (.int .i64 y2)) (h3 : cs[j + 3]? = some (.int .i64 y3)) :
    Four w B cs j y0 y1 y2 y3 w' := ⟨h, h.blk.at_ h0, h.blk.at_ h1, h.blk.at_ h2, h.blk.at_ h3⟩

set_option maxRecDepth 100000 in
set_option maxHeartbeats 4000000 in
theorem noiseLoss_any (a b n k : Int) (w : World) (ha : I64 a) (hb : I64 b) (hn : I64 n) (hk : I64 k) :
    Calls Try.prog 4 #[.int .i64 a, .int .i64 b, .int .i64 n, .int .i64 k] w fun e W' => e = .returned (.bool true) ∧ Below w.heap.size w W' := by
  obtain ⟨m1, m2, k1, k2, -⟩ := hid_bounds n k
  have bx := around_lt a (hidM n k + 1) (by omega)
  have by_ := around_lt b (hidM n k + 1) (by omega)
  go_enter Try.func4, Try.ntmps4
  go_wp2_with fail
  refine (hiding_any n k _ hn.1 hn.2 hk.1 hk.2).mono ?_
  rintro e w' ⟨rfl, rfl⟩
  go_wp2_with fail
  refine (around_any a _ _ ha.1 ha.2 (by omega) (by omega)).mono ?_
  rintro e w' ⟨rfl, rfl⟩
  go_wp2_with fail
  refine (around_any b _ _ hb.1 hb.2 (by omega) (by omega)).mono ?_
  rintro e w' ⟨rfl, rfl⟩
  have hxo : Okay (around a (hidM n k + 1)) (hidM n k) (hidK k) := okay_hid bx.1 (by omega)
  have hyo : Okay (around b (hidM n k + 1)) (hidM n k) (hidK k) := okay_hid by_.1 (by omega)
  generalize hX : around a (hidM n k + 1) = X at *
  generalize hY : around b (hidM n k + 1) = Y at *
  generalize hMM : hidM n k = M at *
  generalize hKK : hidK k = K at *
  clear hX hY hMM hKK
  go_wp2_with fail
  obtain ⟨l, hl, hcs⟩ : ∃ l : List Int, l.length = 20 ∧ ints l = [.int .i64 X, .int .i64 Y, .int .i64 M, .int .i64 K, .int .i64 a, .int .i64 b, .int .i64 n, .int .i64 k, .int .i64 X, .int .i64 (M + 1), .int .i64 M, .int .i64 K, .int .i64 (-1), .int .i64 Y, .int .i64 M, .int .i64 K, .int .i64 X, .int .i64 Y, .int .i64 M, .int .i64 39] :=
    ⟨[X, Y, M, K, a, b, n, k, X, M + 1, M, K, -1, Y, M, K, X, Y, M, 39], rfl, rfl⟩
  have hB : Blk (w.alloc (.cells (ints l).toArray 35)) w.heap.size 35 (ints l).toArray := Blk.new w 35 (ints l).toArray
  have hK : KeepT 35 w w.heap.size (ints l).toArray (w.alloc (.cells (ints l).toArray 35)) := ⟨below_more (Below.refl _ w) (by omega) _, hB⟩
  rw [show (ints l).toArray = #[.int .i64 X, .int .i64 Y, .int .i64 M, .int .i64 K, .int .i64 a, .int .i64 b, .int .i64 n, .int .i64 k, .int .i64 X, .int .i64 (M + 1), .int .i64 M, .int .i64 K, .int .i64 (-1), .int .i64 Y, .int .i64 M, .int .i64 K, .int .i64 X, .int .i64 Y, .int .i64 M, .int .i64 39] by rw [hcs]] at hK
  have HC := Lib.hid hcs
  clear hB hcs
  go_loopw [14] (fun i wr => ∃ j : Nat, j ≤ 5 ∧ i = .int .i64 j ∧ KeepT 35 w w.heap.size (ints l).toArray wr) (fun i _ => 5 - (intOf i).toNat)
  case atStart => exact ⟨0, by omega, rfl, by rw [HC.out]; exact hK⟩
  case round =>
    obtain ⟨j, hj, rfl, hnx⟩ := hrel
    by_cases hlt : j < 5
    · have hji : (j : Int) < 5 := by omega
      have r0 := row_at l (j * 4) (by omega)
      have r1 := row_at l (j * 4 + 1) (by omega)
      have r2 := row_at l (j * 4 + 2) (by omega)
      have r3 := row_at l (j * 4 + 3) (by omega)
      generalize l[j * 4]?.getD 0 = y0 at r0
      generalize l[j * 4 + 1]?.getD 0 = y1 at r1
      generalize l[j * 4 + 2]?.getD 0 = y2 at r2
      generalize l[j * 4 + 3]?.getD 0 = y3 at r3
      have T : ∀ W, KeepT 35 w w.heap.size (ints l).toArray W → Four w w.heap.size (ints l).toArray (j * 4) y0 y1 y2 y3 W := fun W h => Four.of h r0 r1 r2 r3
      have HT := Lib.hid T
      clear T r0 r1 r2 r3 hK
      go_wp2_with fail
      have t0 := HT.out _ hnx.drew
      have q0 := t0.x0
      have q1 := t0.x1
      have q2 := t0.x2
      have q3 := t0.x3
      go_region_held3 (fun w' => w'.cell? ⟨w.heap.size, j * 4, none⟩ = some (.int .i64 y0) ∧ w'.cell? ⟨w.heap.size, j * 4 + 1, none⟩ = some (.int .i64 y1) ∧ w'.cell? ⟨w.heap.size, j * 4 + 2, none⟩ = some (.int .i64 y2) ∧ w'.cell? ⟨w.heap.size, j * 4 + 3, none⟩ = some (.int .i64 y3)) (first | exact ⟨q0, q1, q2, q3⟩ | exact ⟨‹_›, ‹_›, ‹_›, ‹_›⟩)
        (first | (go_at_call 21; refine (loss_any y0 y1 y2 y3 _).mono ?_; rintro e w2 ⟨rfl, hbA⟩; have t1 := HT.out _ (hnx.drew.trans hbA); have q4 := t1.x0; have q5 := t1.x1; have q6 := t1.x2; have q7 := t1.x3))
      have K2 : KeepT 35 w w.heap.size (ints l).toArray w2 := hnx.drew.trans hbA
      clear q0 q1 q2 q3 q4 q5 q6 q7 t0 t1 hbA
      go_wp2_with fail
      have t0 := HT.out _ K2.drew
      have q0 := t0.x0
      have q1 := t0.x1
      have q2 := t0.x2
      have q3 := t0.x3
      go_region_held3 (fun w' => w'.cell? ⟨w.heap.size, j * 4, none⟩ = some (.int .i64 y0) ∧ w'.cell? ⟨w.heap.size, j * 4 + 1, none⟩ = some (.int .i64 y1) ∧ w'.cell? ⟨w.heap.size, j * 4 + 2, none⟩ = some (.int .i64 y2) ∧ w'.cell? ⟨w.heap.size, j * 4 + 3, none⟩ = some (.int .i64 y3)) (first | exact ⟨q0, q1, q2, q3⟩ | exact ⟨‹_›, ‹_›, ‹_›, ‹_›⟩)
        (first | (go_at_call 22; refine (refL_any y0 y1 y2 y3 _).mono ?_; rintro e w3 ⟨rfl, hbB⟩; have t1 := HT.out _ (K2.drew.trans hbB); have q4 := t1.x0; have q5 := t1.x1; have q6 := t1.x2; have q7 := t1.x3))
      have K3 : KeepT 35 w w.heap.size (ints l).toArray w3 := K2.drew.trans hbB
      clear q0 q1 q2 q3 q4 q5 q6 q7 t0 t1 hbB
      go_wp2_with fail
      go_roundw
      case rel => exact ⟨j + 1, by omega, by go_num, K3⟩
      case measure => simp [intOf]; omega
    · obtain rfl : j = 5 := by omega
      clear hK
      have hbelow := hnx.below
      clear hnx
      have hd0 : 0 ≤ absD X Y ∧ absD X Y ≤ 12 := by unfold absD; split <;> omega
      have hkd : 0 ≤ K * absD X Y ∧ K * absD X Y ≤ 72 := by
        refine ⟨Int.mul_nonneg (by omega) hd0.1, ?_⟩
        calc K * absD X Y ≤ 6 * absD X Y := Int.mul_le_mul_of_nonneg_right k2 hd0.1
          _ ≤ 72 := by omega
      have hmax := fun ts t W => run_max_int2 (P := Try.prog) (w := W) ts t .i64 .i64 (X - Y) (Y - X)
      rw [show (if Y - X > X - Y then Y - X else X - Y) = absD X Y by unfold absD; (repeat' split) <;> omega] at hmax
      have hmin := fun ts t W => run_min_int2 (P := Try.prog) (w := W) ts t .i64 .i64 (X + 1) M
      obtain ⟨Z, hZ⟩ : ∃ Z, (if M < X + 1 then M else X + 1) = Z := ⟨_, rfl⟩
      have z1 : 0 ≤ Z ∧ Z ≤ M ∧ absD X Z ≤ 1 ∧ absD Z X ≤ 1 := by
        rw [← hZ]; unfold absD; split <;> (repeat' split) <;> omega
      rw [hZ] at hmin
      clear hZ
      have hzo : Okay Z M K := ⟨hxo.m1, hxo.m2, hxo.k1, hxo.k2, hxo.km, z1.1, z1.2.1⟩
      go_wp2_with fail
      refine (loss_yes X Y M K hxo hyo _).mono ?_
      rintro e w1 ⟨rfl, hb1⟩
      go_wp2_with fail
      refine (weights_yes X M K hxo _).mono ?_
      rintro e w2 ⟨v2, rfl, ho2, hb2⟩
      obtain ⟨A2, c2, rfl, hr2⟩ := own_reads ho2
      go_wp2_with fail
      refine (weights_yes Z M K hzo _).mono ?_
      rintro e w3 ⟨v3, rfl, ho3, hb3⟩
      obtain ⟨A3, c3, rfl, hr3⟩ := own_reads ho3
      have r2 := hr2.below hb3
      have hw : Below w.heap.size w w3 := ((hbelow.trans (hb1.mono hbelow.size)).trans (hb2.mono (Nat.le_trans hbelow.size hb1.size))).trans (hb3.mono (Nat.le_trans (Nat.le_trans hbelow.size hb1.size) hb2.size))
      have l2 := wts_length X M K
      have l3 := wts_length Z M K
      obtain ⟨N, hN⟩ : ∃ N : Nat, N = (M + 1).toNat := ⟨_, rfl⟩
      have hN1 : (N : Int) ≤ M + 1 := by omega
      have hN2 : M + 1 ≤ (N : Int) := by omega
      rw [← hN] at l2 l3
      rw [l2] at r2
      rw [l3] at hr3
      rw [l2, l3]
      clear ho2 ho3 hr2 hb1 hb2 hb3 l2 l3 hN hbelow
      go_wp2_with fail
      go_loopw [25] (fun i wr => ∃ j : Nat, j ≤ N ∧ i = .int .i64 j ∧ Drawn w3 wr) (fun i _ => N - (intOf i).toNat)
      case atStart => exact ⟨0, by omega, rfl, 0, rfl⟩
      case round =>
        obtain ⟨j, hj, rfl, q, rfl⟩ := hrel
        by_cases hlt : j < N
        · have hjN : (j : Int) < (N : Int) := by omega
          obtain ⟨a2, rfl, -, -, e2⟩ := r2.int_at hlt
          obtain ⟨a3, rfl, -, -, e3⟩ := hr3.int_at hlt
          rw [wts_at (by omega)] at e2 e3
          have b2 := wt_bound38 hxo (x := j) (by omega) (by omega)
          have b3 := wt_bound38 hzo (x := j) (by omega) (by omega)
          have s2 := wt_step hxo hzo z1.2.2.1 (x := j) (by omega) (by omega)
          have s3 := wt_step hzo hxo z1.2.2.2 (x := j) (by omega) (by omega)
          have p2 := mul_pow_small b2.1 b2.2 k1 k2
          have p3 := mul_pow_small b3.1 b3.2 k1 k2
          generalize wt X M K j = P at *
          generalize wt Z M K j = Q at *
          have w2 : IntKind.i64.wrap (P * 2 ^ K.toNat) = P * 2 ^ K.toNat := IntWalk.i64_in _ (by omega)
          have w3 : IntKind.i64.wrap (Q * 2 ^ K.toNat) = Q * 2 ^ K.toNat := IntWalk.i64_in _ (by omega)
          have d2 : decide (Q * 2 ^ K.toNat < P) = false := by simp; omega
          have d3 : decide (P * 2 ^ K.toNat < Q) = false := by simp; omega
          go_wp2_with fail
          go_quiet (fail)
          go_wp2_with fail
          go_roundw
          case rel => exact ⟨j + 1, by omega, by go_num, _, rfl⟩
          case measure => simp [intOf]; omega
        · obtain rfl : j = N := by omega
          go_wp2_with fail
          refine (lives_any _).mono ?_
          rintro e w4 ⟨rfl, hb4⟩
          go_wp2_with fail
          go_ret
          exact ⟨rfl, (below_drewN' hw q).trans (hb4.mono (by simpa using hw.size))⟩
theorem noiseLoss_walk (a b n k : Int) (w : World) (ha : (Lit.int .i64 a).wf = true) (hb : (Lit.int .i64 b).wf = true) (hn : (Lit.int .i64 n).wf = true) (hk : (Lit.int .i64 k).wf = true) :
    Calls Try.prog 4 #[.int .i64 a, .int .i64 b, .int .i64 n, .int .i64 k] w fun e W' => e = .returned (.bool true) ∧ Below w.heap.size w W' :=
  noiseLoss_any a b n k w (i64_of ha) (i64_of hb) (i64_of hn) (i64_of hk)
end Go.Proofs.Ytbofbihpmhkppaa
