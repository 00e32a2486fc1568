/- The reference's SHA-256: the words of a block. No condition. -/
import Derived.Test.YtiajlglnefiemaaDoorRa
import Derived.Deep.RegionHeld3
set_option linter.unusedSimpArgs false
set_option linter.unusedVariables false
namespace Go.Proofs.YtiajlglnefiemaaDoor
open Go.RowKit

theorem word4 {b0 b1 b2 b3 : Nat} (h0 : b0 < 256) (h1 : b1 < 256) (h2 : b2 < 256) (h3 : b3 < 256) :
    bits .or .u32 (bits .or .u32 (bits .or .u32 ((b0 : Int) * 16777216) ((b1 : Int) * 65536)) ((b2 : Int) * 256)) (b3 : Int) = ((b0 * 16777216 + b1 * 65536 + b2 * 256 + b3 : Nat) : Int) := by
  have e0 : (b0 : Int) * 16777216 = ((b0 * 16777216 : Nat) : Int) := by omega
  have e1 : (b1 : Int) * 65536 = ((b1 * 65536 : Nat) : Int) := by omega
  have e2 : (b2 : Int) * 256 = ((b2 * 256 : Nat) : Int) := by omega
  rw [e0, e1, e2]
  rw [u32_or_nat _ _ (by omega) (by omega)]
  have o1 : b0 * 16777216 ||| b1 * 65536 = b0 * 16777216 + b1 * 65536 := by
    rw [Nat.mul_comm b0]; exact (Nat.two_pow_add_eq_or_of_lt (i := 24) (by omega) b0).symm
  rw [o1, u32_or_nat _ _ (by omega) (by omega)]
  have o2 : b0 * 16777216 + b1 * 65536 ||| b2 * 256 = b0 * 16777216 + b1 * 65536 + b2 * 256 := by
    have e : b0 * 16777216 + b1 * 65536 = 2 ^ 16 * (b0 * 256 + b1) := by omega
    rw [e]; exact (Nat.two_pow_add_eq_or_of_lt (i := 16) (by omega) _).symm
  rw [o2, u32_or_nat _ _ (by omega) (by omega)]
  have o3 : b0 * 16777216 + b1 * 65536 + b2 * 256 ||| b3 = b0 * 16777216 + b1 * 65536 + b2 * 256 + b3 := by
    have e : b0 * 16777216 + b1 * 65536 + b2 * 256 = 2 ^ 8 * (b0 * 65536 + b1 * 256 + b2) := by omega
    rw [e]; exact (Nat.two_pow_add_eq_or_of_lt (i := 8) (by omega) _).symm
  rw [o3]
theorem ow_lw8 (x : UInt32) (d : Nat) (hd : d < 256) (hx : x.toNat < 16777216) : (ow (lw x 8) (UInt32.ofNat d)).toNat = x.toNat * 256 + d := by
  have h := w_shl x 8 (by omega)
  have e : ((lw x 8).toNat : Int) = ((x.toNat * 256 : Nat) : Int) := by rw [← h]; show (x.toNat : Int) * 256 % 4294967296 = _; omega
  have e' : (lw x 8).toNat = x.toNat * 256 := by omega
  unfold ow
  rw [UInt32.toNat_or, e', UInt32.toNat_ofNat', Nat.mod_eq_of_lt (by omega), Nat.mul_comm x.toNat 256]
  exact (Nat.two_pow_add_eq_or_of_lt (i := 8) hd _).symm
theorem part4 (b : List UInt8) (t : Nat) : (((b[4 * t]?.getD 0).toNat * 16777216 + (b[4 * t + 1]?.getD 0).toNat * 65536 + (b[4 * t + 2]?.getD 0).toNat * 256 + (b[4 * t + 3]?.getD 0).toNat : Nat) : Int) = ((part b t 4).toNat : Int) := by
  have h0 := (b[4 * t]?.getD 0).toNat_lt
  have h1 := (b[4 * t + 1]?.getD 0).toNat_lt
  have h2 := (b[4 * t + 2]?.getD 0).toNat_lt
  have h3 := (b[4 * t + 3]?.getD 0).toNat_lt
  have p0 : (part b t 1).toNat = (b[4 * t]?.getD 0).toNat := by
    show (ow (lw 0 8) (UInt32.ofNat (b[4 * t + 0]?.getD 0).toNat)).toNat = _
    rw [ow_lw8 0 _ (by show (b[4 * t]?.getD 0).toNat < 256; exact h0) (by decide)]
    simp
  have p1 : (part b t 2).toNat = (part b t 1).toNat * 256 + (b[4 * t + 1]?.getD 0).toNat := ow_lw8 (part b t 1) _ h1 (by omega)
  have p2 : (part b t 3).toNat = (part b t 2).toNat * 256 + (b[4 * t + 2]?.getD 0).toNat := ow_lw8 (part b t 2) _ h2 (by omega)
  have p3 : (part b t 4).toNat = (part b t 3).toNat * 256 + (b[4 * t + 3]?.getD 0).toNat := ow_lw8 (part b t 3) _ h3 (by omega)
  omega
theorem rrot_q (x : UInt32) (k : Nat) (w : World) (n : Nat) (hk : 1 ≤ k) (hk2 : k < 32) : Calls Tryd.prog 112 #[.int .u32 (x.toNat : Int), .int .i64 (k : Int)] (w.drewN n) fun e w'' => e = .returned (.int .u32 ((rotr x k).toNat : Int)) ∧ ∃ m, w'' = w.drewN m :=
  Calls.quiet_of (rrot_any x k (w.drewN n) hk hk2)
theorem rrot7_q (x : UInt32) (w : World) (n : Nat) : Calls Tryd.prog 112 #[.int .u32 (x.toNat : Int), .int .i64 7] (w.drewN n) fun e w'' => e = .returned (.int .u32 ((rotr x 7).toNat : Int)) ∧ ∃ m, w'' = w.drewN m := rrot_q x 7 w n (by omega) (by omega)
theorem rrot18_q (x : UInt32) (w : World) (n : Nat) : Calls Tryd.prog 112 #[.int .u32 (x.toNat : Int), .int .i64 18] (w.drewN n) fun e w'' => e = .returned (.int .u32 ((rotr x 18).toNat : Int)) ∧ ∃ m, w'' = w.drewN m := rrot_q x 18 w n (by omega) (by omega)
theorem rrot17_q (x : UInt32) (w : World) (n : Nat) : Calls Tryd.prog 112 #[.int .u32 (x.toNat : Int), .int .i64 17] (w.drewN n) fun e w'' => e = .returned (.int .u32 ((rotr x 17).toNat : Int)) ∧ ∃ m, w'' = w.drewN m := rrot_q x 17 w n (by omega) (by omega)
theorem rrot19_q (x : UInt32) (w : World) (n : Nat) : Calls Tryd.prog 112 #[.int .u32 (x.toNat : Int), .int .i64 19] (w.drewN n) fun e w'' => e = .returned (.int .u32 ((rotr x 19).toNat : Int)) ∧ ∃ m, w'' = w.drewN m := rrot_q x 19 w n (by omega) (by omega)
theorem rrot6_q (x : UInt32) (w : World) (n : Nat) : Calls Tryd.prog 112 #[.int .u32 (x.toNat : Int), .int .i64 6] (w.drewN n) fun e w'' => e = .returned (.int .u32 ((rotr x 6).toNat : Int)) ∧ ∃ m, w'' = w.drewN m := rrot_q x 6 w n (by omega) (by omega)
theorem rrot11_q (x : UInt32) (w : World) (n : Nat) : Calls Tryd.prog 112 #[.int .u32 (x.toNat : Int), .int .i64 11] (w.drewN n) fun e w'' => e = .returned (.int .u32 ((rotr x 11).toNat : Int)) ∧ ∃ m, w'' = w.drewN m := rrot_q x 11 w n (by omega) (by omega)
theorem rrot25_q (x : UInt32) (w : World) (n : Nat) : Calls Tryd.prog 112 #[.int .u32 (x.toNat : Int), .int .i64 25] (w.drewN n) fun e w'' => e = .returned (.int .u32 ((rotr x 25).toNat : Int)) ∧ ∃ m, w'' = w.drewN m := rrot_q x 25 w n (by omega) (by omega)
theorem rrot2_q (x : UInt32) (w : World) (n : Nat) : Calls Tryd.prog 112 #[.int .u32 (x.toNat : Int), .int .i64 2] (w.drewN n) fun e w'' => e = .returned (.int .u32 ((rotr x 2).toNat : Int)) ∧ ∃ m, w'' = w.drewN m := rrot_q x 2 w n (by omega) (by omega)
theorem rrot13_q (x : UInt32) (w : World) (n : Nat) : Calls Tryd.prog 112 #[.int .u32 (x.toNat : Int), .int .i64 13] (w.drewN n) fun e w'' => e = .returned (.int .u32 ((rotr x 13).toNat : Int)) ∧ ∃ m, w'' = w.drewN m := rrot_q x 13 w n (by omega) (by omega)
theorem rrot22_q (x : UInt32) (w : World) (n : Nat) : Calls Tryd.prog 112 #[.int .u32 (x.toNat : Int), .int .i64 22] (w.drewN n) fun e w'' => e = .returned (.int .u32 ((rotr x 22).toNat : Int)) ∧ ∃ m, w'' = w.drewN m := rrot_q x 22 w n (by omega) (by omega)
set_option maxRecDepth 100000 in
set_option maxHeartbeats 4000000 in
theorem rWords_any (A : Option Addr) (c : Nat) (b : List UInt8) (w : World) (hl : Reads w w.heap.size 1 A 64 (bytesV b)) (hc : 64 ≤ c) :
    Calls Tryd.prog 111 #[.slice A 64 c] w fun e W' => e = .returned (.agg (w32s (schedN b 64)).toArray) ∧ Below w.heap.size w W' := by
  obtain ⟨ad, rfl, -⟩ := hl.byte_at (k := 0) (by omega)
  obtain ⟨C, hC⟩ : ∃ C, C = (w32s (schedN b 64)).toArray := ⟨_, rfl⟩
  rw [← hC]
  have HC := Lib.hid hC
  clear hC
  go_enter Tryd.func111, Tryd.ntmps111
  go_wp2_with fail
  obtain ⟨Z, hZ⟩ : ∃ Z, Z = (w32s (pad [])).toArray := ⟨_, rfl⟩
  go_loopw [4] (fun i wr => ∃ t : Nat, t ≤ 16 ∧ i = .int .i64 t ∧ Blk wr (w.heap.size + 1) 117 (w32s (pad (schedN b t))).toArray ∧ Blk wr w.heap.size 117 Z ∧ Below w.heap.size w wr) (fun i _ => 16 - (intOf i).toNat)
  case atStart =>
    refine ⟨0, by omega, rfl, ?_, ?_, ?_⟩
    · have := Blk.new (w.alloc (.cells (w32s (pad [])).toArray 117)) 117 (w32s (pad [])).toArray; rw [show (w.alloc (.cells (w32s (pad [])).toArray 117)).heap.size = w.heap.size + 1 by simp] at this; exact this
    · rw [hZ]; exact (Blk.new w 117 _).alloc _
    · exact ((Below.refl _ w).alloc (Nat.le_refl _) _).alloc (by simp) _
  case round =>
    obtain ⟨t, ht, rfl, hB, hR, hb⟩ := hrel
    have hz64 : Z.size = 64 := by rw [hZ]; rfl
    have HZ := Lib.hid hz64
    clear hZ hz64
    have hS := schedN_length b t
    by_cases hlt : t < 16
    · have hti : (t : Int) < 16 := by omega
      have ht64 : (t : Int) < 64 := by omega
      obtain ⟨e0, e1, -, -, c0⟩ := (hl.below hb).byte_at (k := 4 * t) (by omega)
      cases e1
      obtain ⟨e0, e1, -, -, c1⟩ := (hl.below hb).byte_at (k := 4 * t + 1) (by omega)
      cases e1
      obtain ⟨e0, e1, -, -, c2⟩ := (hl.below hb).byte_at (k := 4 * t + 2) (by omega)
      cases e1
      obtain ⟨e0, e1, -, -, c3⟩ := (hl.below hb).byte_at (k := 4 * t + 3) (by omega)
      cases e1
      have h0 := (b[4 * t]?.getD 0).toNat_lt
      have h1 := (b[4 * t + 1]?.getD 0).toNat_lt
      have h2 := (b[4 * t + 2]?.getD 0).toNat_lt
      have h3 := (b[4 * t + 3]?.getD 0).toNat_lt
      have hword := word4 h0 h1 h2 h3
      rw [part4 b t] at hword
      have hsw := sched_word hS hlt
      have f1 := hB.frozen t
      have hset := fun (W : World) (h : Blk W (w.heap.size + 1) 117 (w32s (pad (schedN b t))).toArray) => words_set h t (part b t 4)
      rw [hsw] at hset
      have z0 : wr.cell? ⟨w.heap.size + 1, t, none⟩ = some (.int .u32 0) := by have h := pad_zero (W := schedN b t) (by omega); rw [hS] at h; exact words_at hB h
      generalize part b t 4 = X at *
      generalize (b[4 * t]?.getD 0).toNat = b0 at *
      generalize (b[4 * t + 1]?.getD 0).toNat = b1 at *
      generalize (b[4 * t + 2]?.getD 0).toNat = b2 at *
      generalize (b[4 * t + 3]?.getD 0).toNat = b3 at *
      have HSET := Lib.hid hset
      clear hset hsw hS
      obtain ⟨k0, hk0⟩ : ∃ k0, k0 = 4 * t := ⟨_, rfl⟩
      obtain ⟨k1, hk1⟩ : ∃ k1, k1 = 4 * t + 1 := ⟨_, rfl⟩
      obtain ⟨k2, hk2⟩ : ∃ k2, k2 = 4 * t + 2 := ⟨_, rfl⟩
      obtain ⟨k3, hk3⟩ : ∃ k3, k3 = 4 * t + 3 := ⟨_, rfl⟩
      rw [← hk0] at c0
      rw [← hk1] at c1
      rw [← hk2] at c2
      rw [← hk3] at c3
      have w4 : IntKind.i64.wrap (4 * (t : Int)) = (k0 : Int) := by rw [IntWalk.i64_in _ (by omega)]; omega
      have w41 : IntKind.i64.wrap ((k0 : Int) + 1) = (k1 : Int) := by rw [IntWalk.i64_in _ (by omega)]; omega
      have w42 : IntKind.i64.wrap ((k0 : Int) + 2) = (k2 : Int) := by rw [IntWalk.i64_in _ (by omega)]; omega
      have w43 : IntKind.i64.wrap ((k0 : Int) + 3) = (k3 : Int) := by rw [IntWalk.i64_in _ (by omega)]; omega
      have j0 : (k0 : Int) < 64 := by omega
      have j1 : (k1 : Int) < 64 := by omega
      have j2 : (k2 : Int) < 64 := by omega
      have j3 : (k3 : Int) < 64 := by omega
      clear hk0 hk1 hk2 hk3
      go_wp2_with fail
      go_region
      all_goals
        have hB2 := (HSET.out wr hB).drew
        have hR2 := (hR.far (p := ⟨w.heap.size + 1, t, none⟩) (by simp) (.int .u32 (X.toNat : Int))).drew
        have hb2 := (hb.setCell (p := ⟨w.heap.size + 1, t, none⟩) (by simp) (.int .u32 (X.toNat : Int))).drew
        clear hword
        go_wp2_with fail
        go_roundw
        case rel => exact ⟨t + 1, by omega, by go_num, hB2, hR2, hb2⟩
        case measure => simp [intOf]; omega
    · obtain rfl : t = 16 := by omega
      clear hS
      go_wp2_with fail
      go_loopw [5] (fun i wr => ∃ t : Nat, 16 ≤ t ∧ t ≤ 64 ∧ i = .int .i64 t ∧ Blk wr (w.heap.size + 1) 117 (w32s (pad (schedN b t))).toArray ∧ Blk wr w.heap.size 117 Z ∧ Below w.heap.size w wr) (fun i _ => 64 - (intOf i).toNat)
      case atStart => exact ⟨16, by omega, by omega, rfl, hB, hR, hb⟩
      case round =>
        clear hB hR hb
        obtain ⟨t, ht1, ht2, rfl, hB, hR, hb⟩ := hrel
        have hS := schedN_length b t
        by_cases hlt : t < 64
        · have hti : (t : Int) < 64 := by omega
          have HS := Lib.hid hS
          have q15 : wr.cell? ⟨w.heap.size + 1, ((t : Int) - 15).toNat, none⟩ = some (.int .u32 ((nth (schedN b t) (t - 15)).toNat : Int)) := by rw [show ((t : Int) - 15).toNat = t - 15 by omega]; exact words_at hB (pad_get (by omega))
          have q2 : ∀ W, Blk W (w.heap.size + 1) 117 (w32s (pad (schedN b t))).toArray → W.cell? ⟨w.heap.size + 1, ((t : Int) - 2).toNat, none⟩ = some (.int .u32 ((nth (schedN b t) (t - 2)).toNat : Int)) := fun W h => by rw [show ((t : Int) - 2).toNat = t - 2 by omega]; exact words_at h (pad_get (by omega))
          have q16 : ∀ W, Blk W (w.heap.size + 1) 117 (w32s (pad (schedN b t))).toArray → W.cell? ⟨w.heap.size + 1, ((t : Int) - 16).toNat, none⟩ = some (.int .u32 ((nth (schedN b t) (t - 16)).toNat : Int)) := fun W h => by rw [show ((t : Int) - 16).toNat = t - 16 by omega]; exact words_at h (pad_get (by omega))
          have q7 : ∀ W, Blk W (w.heap.size + 1) 117 (w32s (pad (schedN b t))).toArray → W.cell? ⟨w.heap.size + 1, ((t : Int) - 7).toNat, none⟩ = some (.int .u32 ((nth (schedN b t) (t - 7)).toNat : Int)) := fun W h => by rw [show ((t : Int) - 7).toNat = t - 7 by omega]; exact words_at h (pad_get (by omega))
          have z0 : ∀ W, Blk W (w.heap.size + 1) 117 (w32s (pad (schedN b t))).toArray → W.cell? ⟨w.heap.size + 1, t, none⟩ = some (.int .u32 0) := fun W hB => by have h := pad_zero (W := schedN b t) (by omega); rw [hS] at h; exact words_at hB h
          have HN : Hid (nextW b (schedN b t) = aw (aw (aw (nth (schedN b t) (t - 16)) (sig0 (nth (schedN b t) (t - 15)))) (nth (schedN b t) (t - 7))) (sig1 (nth (schedN b t) (t - 2)))) := by
            show nextW b (schedN b t) = _
            unfold nextW
            rw [hS, if_neg (by omega)]
          generalize nth (schedN b t) (t - 15) = x15 at *
          generalize nth (schedN b t) (t - 2) = x2 at *
          generalize nth (schedN b t) (t - 16) = x16 at *
          generalize nth (schedN b t) (t - 7) = x7 at *
          have Q16 := Lib.hid q16
          have Q2 := Lib.hid q2
          have Q7 := Lib.hid q7
          have Z0 := Lib.hid z0
          have b15 := u32_lt x15
          have b2 := u32_lt x2
          clear hS q16 q7 z0 q2
          have p15 : (15 : Int) ≤ (t : Int) := by omega
          have j15 : (t : Int) - 15 < 64 := by omega
          have p2 : (2 : Int) ≤ (t : Int) := by omega
          have j2 : (t : Int) - 2 < 64 := by omega
          have i15 : (0 : Int) ≤ (t : Int) - 15 := by omega
          have i2 : (0 : Int) ≤ (t : Int) - 2 := by omega
          have w15 : IntKind.i64.wrap ((t : Int) - 15) = (t : Int) - 15 := IntWalk.i64_in _ (by omega)
          have w2 : IntKind.i64.wrap ((t : Int) - 2) = (t : Int) - 2 := IntWalk.i64_in _ (by omega)
          have s1 := w_xor (rotr x15 7) (rotr x15 18)
          have s2 := w_shr x15 3 (by omega)
          rw [show ((2 ^ 3 : Nat) : Int) = 8 from rfl] at s2
          have s3 : bits .xor .u32 ((xw (rotr x15 7) (rotr x15 18)).toNat : Int) ((sw x15 3).toNat : Int) = ((sig0 x15).toNat : Int) := w_xor _ _
          go_wp2_with fail
          go_quiet ((go_at_call 112; first | with_reducible exact rrot7_q x15 _ _ | with_reducible exact rrot18_q x15 _ _))
          clear s1 s2 s3 q15 w15 p15 j15 i15
          generalize hW : wr.drewN nq = W1
          have hB1 : Blk W1 (w.heap.size + 1) 117 (w32s (pad (schedN b t))).toArray := hW ▸ hB.drewN nq
          have hR1 : Blk W1 w.heap.size 117 Z := hW ▸ hR.drewN nq
          have hb1 : Below w.heap.size w W1 := hW ▸ below_drewN' hb nq
          clear hW hB hR hb
          have q2 := Q2.out W1 hB1
          have r1 := w_xor (rotr x2 17) (rotr x2 19)
          have r2 := w_shr x2 10 (by omega)
          rw [show ((2 ^ 10 : Nat) : Int) = 1024 from rfl] at r2
          have r3 : bits .xor .u32 ((xw (rotr x2 17) (rotr x2 19)).toNat : Int) ((sw x2 10).toNat : Int) = ((sig1 x2).toNat : Int) := w_xor _ _
          go_wp2_with fail
          go_quiet ((go_at_call 112; first | with_reducible exact rrot17_q x2 _ _ | with_reducible exact rrot19_q x2 _ _))
          clear r1 r2 r3 q2 w2 p2 j2 i2
          rename_i nq2
          generalize hW : W1.drewN _ = W2
          have hB2 : Blk W2 (w.heap.size + 1) 117 (w32s (pad (schedN b t))).toArray := hW ▸ hB1.drewN _
          have hR2 : Blk W2 w.heap.size 117 Z := hW ▸ hR1.drewN _
          have hb2 : Below w.heap.size w W2 := hW ▸ below_drewN' hb1 _
          clear hW hB1 hR1 hb1
          have q16 := Q16.out W2 hB2
          have q7 := Q7.out W2 hB2
          have z0 := Z0.out W2 hB2
          have f1 := hB2.frozen t
          have p16 : (16 : Int) ≤ (t : Int) := by omega
          have p7 : (7 : Int) ≤ (t : Int) := by omega
          have j16 : (t : Int) - 16 < 64 := by omega
          have j7 : (t : Int) - 7 < 64 := by omega
          have w16 : IntKind.i64.wrap ((t : Int) - 16) = (t : Int) - 16 := IntWalk.i64_in _ (by omega)
          have w7 : IntKind.i64.wrap ((t : Int) - 7) = (t : Int) - 7 := IntWalk.i64_in _ (by omega)
          have hset := words_set hB2 t (aw (aw (aw x16 (sig0 x15)) x7) (sig1 x2))
          rw [← HN.out, sched_next HS.out hlt, HN.out] at hset
          generalize sig0 x15 = y0 at *
          generalize sig1 x2 = y1 at *
          have a1 := w_addw x16 y0
          have a2 := w_addw (aw x16 y0) x7
          have a3 := w_addw (aw (aw x16 y0) x7) y1
          go_wp2_with fail
          go_region
          all_goals
            have hB3 := hset.drew
            have hR3 := (hR2.far (p := ⟨w.heap.size + 1, t, none⟩) (by simp) (.int .u32 ((aw (aw (aw x16 y0) x7) y1).toNat : Int))).drew
            have hb3 := (hb2.setCell (p := ⟨w.heap.size + 1, t, none⟩) (by simp) (.int .u32 ((aw (aw (aw x16 y0) x7) y1).toNat : Int))).drew
            go_wp2_with fail
            go_roundw
            case rel =>
              have v1 : Value.int .i64 ((t : Int) + 1) = .int .i64 ((t + 1 : Nat) : Int) := by go_num
              first | exact ⟨t + 1, by omega, by omega, v1, hB3, hR3, hb3⟩ | ((repeat apply Exists.intro); exact ⟨⟨t + 1, by omega, by omega, v1, hB3, hR3, hb3⟩, rfl⟩)
            case measure => simp [intOf]; omega
        · obtain rfl : t = 64 := by omega
          have e64 : pad (schedN b 64) = schedN b 64 := by unfold pad; rw [schedN_length]; simp
          rw [e64] at hB
          have hl64 : (w32s (schedN b 64)).toArray.size = 64 := by simp [w32s, schedN_length]
          have HL := Lib.hid hl64
          have hone : (w32s (schedN b 64)).toArray.all (·.oneCell') = true := w32s_one _
          have HO := Lib.hid hone
          rw [← HC.out] at hB HL HO
          clear hS e64 hl64 hone
          have HI : Hid ((Tryd.prog.info? 117).map (·.size) = some C.size) := Lib.hid (by rw [HL.out]; exact info64)
          have HZC : Hid (Z.size = C.size) := Lib.hid (by rw [HL.out, HZ.out])
          go_wp2_with (first
            | (with_reducible refine wpList_load_row rfl 117 _ rfl (w.heap.size + 1) rfl 117 C (0, 0) _ hB.heap_ Tryd.underlying117 rfl HI.out ?_)
            | (with_reducible refine wpList_store_row rfl 117 _ _ rfl w.heap.size C rfl rfl 117 Z hR.heap_ HI.out HZC.out HO.out ?_))
          refine ret_row (g := w.heap.size) (cs := C) (t := 117) Tryd.results111 ?_ (hR.row C) rfl Tryd.underlying117 HI.out ?_ ?_
          · rfl
          · rfl
          · exact ⟨rfl, below_setRow hb (Nat.le_refl _) C⟩
end Go.Proofs.YtiajlglnefiemaaDoor
