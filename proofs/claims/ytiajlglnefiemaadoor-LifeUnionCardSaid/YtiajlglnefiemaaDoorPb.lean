/- The walks of package perm: mixing and its way back. Conditions as in the text before. -/
import Derived.Test.YtiajlglnefiemaaDoorPa
set_option linter.unusedSimpArgs false
set_option linter.unusedVariables false
namespace Go.Proofs.YtiajlglnefiemaaDoor
open Go.RowKit

/-- where the pair lies while it is mixed -/
structure Pair (w : World) (gl gr gn : Nat) (cs : Array Value) (p : Nat × Nat) (W : World) : Prop where
  left : Blk W gl 3 #[.int .i64 (p.1 : Int)]
  right : Blk W gr 3 #[.int .i64 (p.2 : Int)]
  net : Blk W gn 67 cs
  below : Below w.heap.size w W
theorem wrap_one {p : Nat × Nat} {B : Nat} (h : one B p < 65536) : wrap64 (wrap64 ((p.1 : Int) * (B : Int)) + (p.2 : Int)) = (one B p : Int) := by
  obtain ⟨a, b⟩ := p
  unfold one at *
  have n1 : ((a : Int) * (B : Int)) = ((a * B : Nat) : Int) := (Int.natCast_mul _ _).symm
  dsimp only at *
  rw [n1]
  generalize a * B = q at *
  unfold wrap64
  omega
theorem pair_a {w wb : World} {cs : Array Value} {x B : Nat} (hs : wb.heap.size = w.heap.size + 1) (hk : Blk wb w.heap.size 67 cs) (hb : Below w.heap.size w wb) :
    Pair w (w.heap.size + 1) (w.heap.size + 1 + 1) w.heap.size cs (two B x) ((wb.alloc (.cells #[.int .i64 ((x : Int) / (B : Int))] 3)).alloc (.cells #[.int .i64 ((x : Int) % (B : Int))] 3)).drew := by
  have e1 : ((two B x).1 : Int) = (x : Int) / (B : Int) := Int.natCast_ediv x B
  have e2 : ((two B x).2 : Int) = (x : Int) % (B : Int) := Int.natCast_emod x B
  refine ⟨?_, ?_, ?_, ?_⟩
  · rw [e1]
    exact (Blk.alloc (Blk.new' hs.symm) _).drew
  · rw [e2]
    exact (Blk.new' (by rw [World.size_alloc, hs])).drew
  · exact ((hk.alloc _).alloc _).drew
  · exact ((hb.alloc hb.size _).alloc (by rw [World.size_alloc]; have := hb.size; omega) _).drew
theorem pair_b {w wb : World} {cs : Array Value} {x B : Nat} (hs : wb.heap.size = w.heap.size + 1) (hk : Blk wb w.heap.size 67 cs) (hb : Below w.heap.size w wb) :
    Pair w (w.heap.size + 1 + 1) (w.heap.size + 1) w.heap.size cs (two B x) ((wb.alloc (.cells #[.int .i64 ((x : Int) % (B : Int))] 3)).alloc (.cells #[.int .i64 ((x : Int) / (B : Int))] 3)).drew := by
  have e1 : ((two B x).1 : Int) = (x : Int) / (B : Int) := Int.natCast_ediv x B
  have e2 : ((two B x).2 : Int) = (x : Int) % (B : Int) := Int.natCast_emod x B
  refine ⟨?_, ?_, ?_, ?_⟩
  · rw [e1]
    exact (Blk.new' (by rw [World.size_alloc, hs])).drew
  · rw [e2]
    exact (Blk.alloc (Blk.new' hs.symm) _).drew
  · exact ((hk.alloc _).alloc _).drew
  · exact ((hb.alloc hb.size _).alloc (by rw [World.size_alloc]; have := hb.size; omega) _).drew
theorem rnd_lt (s : ByteArray) (l : List Int) (e k r : Nat) : rnd s l (2 ^ e) k r < 2 ^ e := Nat.mod_lt _ (Nat.two_pow_pos e)
set_option maxRecDepth 100000 in
set_option maxHeartbeats 2000000 in
theorem mix_any {s : ByteArray} {A : Option Addr} {n c : Nat} {l : List Int} {w : World} (h : Net s A n l w) (e x : Nat) (he : e ≤ 8) (hx : x < 2 ^ e * 2 ^ e) :
    Calls Tryd.prog 51 #[.agg (netCells s A n c (2 ^ e)), .int .i64 (x : Int)] w fun E W' => E = .returned (.int .i64 (mixF (rnd s l (2 ^ e)) (2 ^ e) x : Int)) ∧ Below w.heap.size w W' := by
  have hst := fun (k : Nat) (p : Nat × Nat) (gr gl gn : Nat) (W : World) (hW : Net s A n l W) (hk : k ≤ 3) (hp : Lt2 e p) => step_any (c := c) hW e k p.1 p.2 gr gl gn he hk hp.1 hp.2
  have hlt := fun k => fwd_lt (rnd_lt s l e) k (p := two (2 ^ e) x) (two_lt hx)
  have hB0 : 0 < 2 ^ e := Nat.two_pow_pos e
  have hB : 2 ^ e ≤ 256 := Nat.pow_le_pow_right (n := 2) (by omega) he
  have hxl : x < 65536 := Nat.lt_of_lt_of_le hx (Nat.mul_le_mul hB hB)
  obtain ⟨F, hF⟩ : ∃ F, F = fun k => fwd (rnd s l (2 ^ e)) k (two (2 ^ e) x) := ⟨_, rfl⟩
  have F0 : F 0 = two (2 ^ e) x := by rw [hF]; rfl
  have Fs : ∀ k, F (k + 1) = stp (rnd s l (2 ^ e)) k (F k) := by rw [hF]; exact fun k => rfl
  have FR : mixF (rnd s l (2 ^ e)) (2 ^ e) x = one (2 ^ e) (F 4) := by rw [hF]; rfl
  have FL : ∀ k, Lt2 e (F k) := by rw [hF]; exact hlt
  have FX : one (2 ^ e) (F 4) < 65536 := Nat.lt_of_lt_of_le (one_lt (FL 4).1 (FL 4).2) (Nat.mul_le_mul hB hB)
  rw [FR]
  clear hlt hF FR hx
  unfold netCells at hst ⊢
  obtain ⟨B, hBe⟩ : ∃ B, 2 ^ e = B := ⟨_, rfl⟩
  rw [hBe] at hst hB0 hB F0 FX ⊢
  simp only [hBe] at Fs
  have HF0 := Lib.hid F0
  have HFS := Lib.hid Fs
  have HFL := Lib.hid FL
  have Hst := Lib.hid hst
  clear F0 Fs FL hst hBe
  have hBne : (B : Int) ≠ 0 := by omega
  have hBn : B ≠ 0 := by omega
  have htm : (x : Int).tmod (B : Int) = (x : Int) % (B : Int) := Int.tmod_eq_emod_of_nonneg (by omega)
  have htd : (x : Int).tdiv (B : Int) = (x : Int) / (B : Int) := Int.tdiv_eq_ediv_of_nonneg (by omega)
  have hwd : IntKind.i64.wrap ((x : Int) / (B : Int)) = (x : Int) / (B : Int) := by
    have h1 : (x : Int) / (B : Int) = ((x / B : Nat) : Int) := (Int.natCast_ediv x B).symm
    have h2 := Nat.div_le_self x B
    have h3 := Nat.zero_le (x / B)
    rw [h1]
    generalize x / B = q at *
    simp [IntKind.wrap, IntKind.signed, IntKind.bits]; omega
  go_enter Tryd.func51, Tryd.ntmps51
  go_upto_region 1 with fail
  go_cut [5, 6] from 9 to 16 (fun v5 v6 wx => ∃ gl gr, v5 = .pointer (some ⟨gl, 0, none⟩) ∧ v6 = .pointer (some ⟨gr, 0, none⟩) ∧ Hid (gl ≠ gr ∧ w.heap.size ≤ gl ∧ w.heap.size ≤ gr) ∧ Pair w gl gr w.heap.size #[.string s, .slice A n c, .int .i64 (B : Int)] (two B x) wx)
  case first =>
    refine wp_world fun wb hwb => ?_
    have hsz : wb.heap.size = w.heap.size + 1 := by rw [hwb]; simp
    have hb : Below w.heap.size w wb := by rw [hwb]; exact (Below.refl _ w).alloc (Nat.le_refl _) _
    have hk : Blk wb w.heap.size 67 #[.string s, .slice A n c, .int .i64 (B : Int)] := by rw [hwb]; exact Blk.new w 67 _
    clear hwb
    have hc : wb.cell? ⟨w.heap.size, 2, none⟩ = some (.int .i64 (B : Int)) := hk.at_ rfl
    go_region_held3 (fun W => W.cell? ⟨w.heap.size, 2, none⟩ = some (.int .i64 (B : Int))) (first | exact hc | go_keep) (fail)
    all_goals
      go_wp2_with fail
      go_meet
    · exact ⟨w.heap.size + 1, w.heap.size + 1 + 1, rfl, rfl, Lib.hid (by omega), pair_a hsz hk hb⟩
    · exact ⟨w.heap.size + 1 + 1, w.heap.size + 1, rfl, rfl, Lib.hid (by omega), pair_b hsz hk hb⟩
  case rest =>
    obtain ⟨gl, gr, rfl, rfl, HG, hP⟩ := hcut
    go_wp2_with fail
    go_loopw [18] (fun i wr => ∃ k : Nat, k ≤ 4 ∧ i = .int .i64 (k : Int) ∧ Pair w gl gr w.heap.size #[.string s, .slice A n c, .int .i64 (B : Int)] (F k) wr) (fun i _ => (4 - intOf i).toNat)
    case atStart => exact ⟨0, by omega, rfl, by rw [HF0.out]; exact hP⟩
    case round =>
      clear hP
      obtain ⟨k, hk, rfl, hL, hR, hN, hb⟩ := hrel
      by_cases hlt : k < 4
      · have hki : (k : Int) < 4 := by omega
        have hc := Hst.out k (F k) gr gl w.heap.size wr (h.below hb) (by omega) (HFL.out k) hL hR hN HG.out.1
        rw [← HFS.out k] at hc
        have HC := Lib.hid hc
        clear hc
        go_wp2_with fail
        refine HC.out.mono ?_
        rintro E w2 ⟨⟨v, rfl⟩, hL2, hR2, hN2, hb2⟩
        have hb3 := hb.trans (hb2 w.heap.size HG.out.2.1 HG.out.2.2 hb.size)
        go_wp2_with fail
        go_roundw
        case rel => exact ⟨k + 1, by omega, by go_num, hL2, hR2, hN2, hb3⟩
        case measure => simp [intOf]; omega
      · obtain rfl : k = 4 := by omega
        have q1 : wr.cell? ⟨gl, 0, none⟩ = some (.int .i64 ((F 4).1 : Int)) := hL.at_ rfl
        have q2 : wr.cell? ⟨gr, 0, none⟩ = some (.int .i64 ((F 4).2 : Int)) := hR.at_ rfl
        have q3 : wr.cell? ⟨w.heap.size, 2, none⟩ = some (.int .i64 (B : Int)) := hN.at_ rfl
        go_wp2_with fail
        rw [wrap_one FX]
        go_ret
        exact ⟨rfl, hb⟩
/-- backward, from the last round on -/
def rv (f : Nat → Nat → Nat) : Nat → Nat × Nat → Nat × Nat
  | 0, p => p
  | k + 1, p => unstp f (3 - k) (rv f k p)
theorem rv_lt {f : Nat → Nat → Nat} {b : Nat} (hf : ∀ k r, f k r < 2 ^ b) : ∀ (k : Nat) {p : Nat × Nat}, Lt2 b p → Lt2 b (rv f k p)
  | 0, _, h => h
  | k + 1, _, h => unstp_lt hf _ (rv_lt hf k h)
set_option maxRecDepth 100000 in
set_option maxHeartbeats 2000000 in
theorem back_any {s : ByteArray} {A : Option Addr} {n c : Nat} {l : List Int} {w : World} (h : Net s A n l w) (e x : Nat) (he : e ≤ 8) (hx : x < 2 ^ e * 2 ^ e) :
    Calls Tryd.prog 52 #[.agg (netCells s A n c (2 ^ e)), .int .i64 (x : Int)] w fun E W' => E = .returned (.int .i64 (backF (rnd s l (2 ^ e)) (2 ^ e) x : Int)) ∧ Below w.heap.size w W' := by
  have hst := fun (k : Nat) (p : Nat × Nat) (gr gl gn : Nat) (W : World) (hW : Net s A n l W) (hk : k ≤ 3) (hp : Lt2 e p) => unstep_any (c := c) hW e k p.1 p.2 gr gl gn he hk hp.1 hp.2
  have hlt := fun k => rv_lt (rnd_lt s l e) k (p := two (2 ^ e) x) (two_lt hx)
  have hB0 : 0 < 2 ^ e := Nat.two_pow_pos e
  have hB : 2 ^ e ≤ 256 := Nat.pow_le_pow_right (n := 2) (by omega) he
  have hxl : x < 65536 := Nat.lt_of_lt_of_le hx (Nat.mul_le_mul hB hB)
  obtain ⟨F, hF⟩ : ∃ F, F = fun k => rv (rnd s l (2 ^ e)) k (two (2 ^ e) x) := ⟨_, rfl⟩
  have F0 : F 0 = two (2 ^ e) x := by rw [hF]; rfl
  have Fs : ∀ k, F (k + 1) = unstp (rnd s l (2 ^ e)) (3 - k) (F k) := by rw [hF]; exact fun k => rfl
  have FR : backF (rnd s l (2 ^ e)) (2 ^ e) x = one (2 ^ e) (F 4) := by rw [hF]; rfl
  have FL : ∀ k, Lt2 e (F k) := by rw [hF]; exact hlt
  have FX : one (2 ^ e) (F 4) < 65536 := Nat.lt_of_lt_of_le (one_lt (FL 4).1 (FL 4).2) (Nat.mul_le_mul hB hB)
  rw [FR]
  clear hlt hF FR hx
  unfold netCells at hst ⊢
  obtain ⟨B, hBe⟩ : ∃ B, 2 ^ e = B := ⟨_, rfl⟩
  rw [hBe] at hst hB0 hB F0 FX ⊢
  simp only [hBe] at Fs
  have HF0 := Lib.hid F0
  have HFS := Lib.hid Fs
  have HFL := Lib.hid FL
  have Hst := Lib.hid hst
  clear F0 Fs FL hst hBe
  have hBne : (B : Int) ≠ 0 := by omega
  have hBn : B ≠ 0 := by omega
  have htm : (x : Int).tmod (B : Int) = (x : Int) % (B : Int) := Int.tmod_eq_emod_of_nonneg (by omega)
  have htd : (x : Int).tdiv (B : Int) = (x : Int) / (B : Int) := Int.tdiv_eq_ediv_of_nonneg (by omega)
  have hwd : IntKind.i64.wrap ((x : Int) / (B : Int)) = (x : Int) / (B : Int) := by
    have h1 : (x : Int) / (B : Int) = ((x / B : Nat) : Int) := (Int.natCast_ediv x B).symm
    have h2 := Nat.div_le_self x B
    have h3 := Nat.zero_le (x / B)
    rw [h1]
    generalize x / B = q at *
    simp [IntKind.wrap, IntKind.signed, IntKind.bits]; omega
  go_enter Tryd.func52, Tryd.ntmps52
  go_upto_region 1 with fail
  go_cut [5, 6] from 9 to 16 (fun v5 v6 wx => ∃ gl gr, v5 = .pointer (some ⟨gl, 0, none⟩) ∧ v6 = .pointer (some ⟨gr, 0, none⟩) ∧ Hid (gl ≠ gr ∧ w.heap.size ≤ gl ∧ w.heap.size ≤ gr) ∧ Pair w gl gr w.heap.size #[.string s, .slice A n c, .int .i64 (B : Int)] (two B x) wx)
  case first =>
    refine wp_world fun wb hwb => ?_
    have hsz : wb.heap.size = w.heap.size + 1 := by rw [hwb]; simp
    have hb : Below w.heap.size w wb := by rw [hwb]; exact (Below.refl _ w).alloc (Nat.le_refl _) _
    have hk : Blk wb w.heap.size 67 #[.string s, .slice A n c, .int .i64 (B : Int)] := by rw [hwb]; exact Blk.new w 67 _
    clear hwb
    have hc : wb.cell? ⟨w.heap.size, 2, none⟩ = some (.int .i64 (B : Int)) := hk.at_ rfl
    go_region_held3 (fun W => W.cell? ⟨w.heap.size, 2, none⟩ = some (.int .i64 (B : Int))) (first | exact hc | go_keep) (fail)
    all_goals
      go_wp2_with fail
      go_meet
    · exact ⟨w.heap.size + 1, w.heap.size + 1 + 1, rfl, rfl, Lib.hid (by omega), pair_a hsz hk hb⟩
    · exact ⟨w.heap.size + 1 + 1, w.heap.size + 1, rfl, rfl, Lib.hid (by omega), pair_b hsz hk hb⟩
  case rest =>
    obtain ⟨gl, gr, rfl, rfl, HG, hP⟩ := hcut
    go_wp2_with fail
    go_loopw [8] (fun i wr => ∃ k : Nat, k ≤ 4 ∧ i = .int .i64 (3 - (k : Int)) ∧ Pair w gl gr w.heap.size #[.string s, .slice A n c, .int .i64 (B : Int)] (F k) wr) (fun i _ => (1 + intOf i).toNat)
    case atStart => exact ⟨0, by omega, rfl, by rw [HF0.out]; exact hP⟩
    case round =>
      clear hP
      obtain ⟨k, hk, rfl, hL, hR, hN, hb⟩ := hrel
      by_cases hlt : k < 4
      · have hki : (0 : Int) ≤ 3 - (k : Int) := by omega
        have hk3 : (3 : Int) - (k : Int) = ((3 - k : Nat) : Int) := by omega
        have hc := Hst.out (3 - k) (F k) gr gl w.heap.size wr (h.below hb) (by omega) (HFL.out k) hL hR hN HG.out.1
        rw [← HFS.out k, ← hk3] at hc
        have HC := Lib.hid hc
        have HK3 := Lib.hid hk3
        clear hc hk3
        go_wp2_with fail
        refine HC.out.mono ?_
        rintro E w2 ⟨⟨v, rfl⟩, hL2, hR2, hN2, hb2⟩
        have hb3 := hb.trans (hb2 w.heap.size HG.out.2.1 HG.out.2.2 hb.size)
        go_wp2_with fail
        go_roundw
        case rel => exact ⟨k + 1, by omega, by go_num, hL2, hR2, hN2, hb3⟩
        case measure => simp [intOf]; omega
      · obtain rfl : k = 4 := by omega
        have q1 : wr.cell? ⟨gl, 0, none⟩ = some (.int .i64 ((F 4).1 : Int)) := hL.at_ rfl
        have q2 : wr.cell? ⟨gr, 0, none⟩ = some (.int .i64 ((F 4).2 : Int)) := hR.at_ rfl
        have q3 : wr.cell? ⟨w.heap.size, 2, none⟩ = some (.int .i64 (B : Int)) := hN.at_ rfl
        go_wp2_with fail
        rw [wrap_one FX]
        go_ret
        exact ⟨rfl, hb⟩
end Go.Proofs.YtiajlglnefiemaaDoor
