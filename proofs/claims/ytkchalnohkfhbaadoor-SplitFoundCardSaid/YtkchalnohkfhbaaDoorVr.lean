/- The walk of great: some valid great split comes out. Conditions: the list's numbers have 64 bits. -/
import Derived.Test.YtkchalnohkfhbaaDoorVj
set_option linter.unusedSimpArgs false
set_option linter.unusedVariables false
namespace Go.Proofs.YtkchalnohkfhbaaDoor
open Go.RowKit Go.Shelf Go

set_option maxRecDepth 100000 in
set_option maxHeartbeats 16000000 in
theorem great_any (A : Option Addr) (n c : Nat) (l : List Int) (w : World) (hl : Reads w w.heap.size 1 A n (ints l)) (hI : ∀ x ∈ l, I64 x) :
    Calls Tryd.prog 12 #[.slice A n c] w fun E W' => ∃ T lo hi, ∃ m : Nat, E = .returned (spV ⟨#[103]⟩ none 0 0 T (m : Int) lo hi) ∧ 60000 ≤ m ∧ m ≤ 65536 ∧ 0 ≤ lo ∧ lo ≤ hi ∧ hi ≤ 1048575 ∧
      (m : Int) * lo ≤ T ∧ T ≤ (m : Int) * hi ∧ Below w.heap.size w W' := by
  have hA : ∀ (i : Nat) (m : Int) W, i ≤ 100 → I64 m → Ok w W → Calls Tryd.prog 18 #[.slice A n c, .int .i64 (i : Int), .int .i64 m] W fun e w' => e = .returned (.int .i64 (rAt l i m)) ∧ w' = W := fun i m W hi hm hW => rAt_any A n c _ l i m W (hl.below hW) hI (by omega) hm
  have h1 := rAt_lt l 1 5537 (by omega)
  have h2 := rAt_lt l 2 3 (by omega)
  have h3 := rAt_lt l 3 1048573 (by omega)
  have h4 := rAt_lt l 4 1099511627776 (by omega)
  have HA1 : Hid (∀ W, Ok w W → Calls Tryd.prog 18 #[.slice A n c, .int .i64 1, .int .i64 5537] W fun e w' => e = .returned (.int .i64 (rAt l 1 5537)) ∧ w' = W) := Lib.hid (fun W hW => hA 1 5537 W (by omega) (by unfold I64; omega) hW)
  have HA2 : Hid (∀ W, Ok w W → Calls Tryd.prog 18 #[.slice A n c, .int .i64 2, .int .i64 3] W fun e w' => e = .returned (.int .i64 (rAt l 2 3)) ∧ w' = W) := Lib.hid (fun W hW => hA 2 3 W (by omega) (by unfold I64; omega) hW)
  have HA3 : Hid (∀ W, Ok w W → Calls Tryd.prog 18 #[.slice A n c, .int .i64 3, .int .i64 1048573] W fun e w' => e = .returned (.int .i64 (rAt l 3 1048573)) ∧ w' = W) := Lib.hid (fun W hW => hA 3 1048573 W (by omega) (by unfold I64; omega) hW)
  have HA4 : Hid (∀ W, Ok w W → Calls Tryd.prog 18 #[.slice A n c, .int .i64 4, .int .i64 1099511627776] W fun e w' => e = .returned (.int .i64 (rAt l 4 1099511627776)) ∧ w' = W) := Lib.hid (fun W hW => hA 4 1099511627776 W (by omega) (by unfold I64; omega) hW)
  generalize rAt l 1 5537 = r1 at *
  generalize rAt l 2 3 = LO at *
  generalize rAt l 3 1048573 = r3 at *
  generalize rAt l 4 1099511627776 = r4 at *
  clear hA
  obtain ⟨N, hN⟩ : ∃ N : Int, N = 60000 + r1 := ⟨_, rfl⟩
  obtain ⟨HI, hH⟩ : ∃ H : Int, H = 3 + r3 := ⟨_, rfl⟩
  have q1 : IntKind.i64.wrap (60000 + r1) = N := by rw [hN]; exact wrap_small (by omega) (by omega)
  have q2 : IntKind.i64.wrap (3 + r3) = HI := by rw [hH]; exact wrap_small (by omega) (by omega)
  have q3 : IntKind.i64.wrap (HI - LO) = HI - LO := wrap_small (by omega) (by omega)
  obtain ⟨X1, hX1⟩ : ∃ y, y = N * LO := ⟨_, rfl⟩
  obtain ⟨X2, hX2⟩ : ∃ y, y = N * (HI - LO) := ⟨_, rfl⟩
  have b1 : 0 ≤ X1 ∧ X1 ≤ 131072 := by
    rw [hX1]
    have e1 : N * LO ≤ N * 2 := Int.mul_le_mul_of_nonneg_left (by omega) (by omega)
    have e0 : 0 ≤ N * LO := Int.mul_nonneg (by omega) (by omega)
    omega
  have b2 : 0 ≤ X2 ∧ X2 ≤ 68719476736 := by
    rw [hX2]
    have e1 : N * (HI - LO) ≤ N * 1048575 := Int.mul_le_mul_of_nonneg_left (by omega) (by omega)
    have e0 : 0 ≤ N * (HI - LO) := Int.mul_nonneg (by omega) (by omega)
    omega
  have hNH : N * HI = X1 + X2 := by rw [hX1, hX2, ← Int.mul_add]; congr 1; omega
  have q4 : IntKind.i64.wrap (N * LO) = X1 := by rw [← hX1]; exact wrap_small (by omega) (by omega)
  have q5 : IntKind.i64.wrap (N * (HI - LO)) = X2 := by rw [← hX2]; exact wrap_small (by omega) (by omega)
  have q6 : IntKind.i64.wrap (X2 + 1) = X2 + 1 := wrap_small (by omega) (by omega)
  obtain ⟨R, hR⟩ : ∃ y, y = r4.tmod (X2 + 1) := ⟨_, rfl⟩
  have b3 : 0 ≤ R ∧ R ≤ X2 := by
    rw [hR, Int.tmod_eq_emod_of_nonneg (by omega)]
    have := Int.emod_nonneg r4 (show X2 + 1 ≠ 0 by omega)
    have := Int.emod_lt_of_pos r4 (show 0 < X2 + 1 by omega)
    omega
  have q7 : IntKind.i64.wrap (r4.tmod (X2 + 1)) = R := by rw [← hR]; exact wrap_small (by omega) (by omega)
  have q8 : IntKind.i64.wrap (X1 + R) = X1 + R := wrap_small (by omega) (by omega)
  have hz : ¬ X2 + 1 = 0 := by omega
  have HB : Hid (N = 60000 + r1 ∧ HI = 3 + r3 ∧ X1 = N * LO ∧ N * HI = X1 + X2) := Lib.hid ⟨hN, hH, hX1, hNH⟩
  have q9 : r4.tmod (X2 + 1) = R := hR.symm
  clear hN hH hX1 hX2 hR hNH
  go_enter Tryd.func12, Tryd.ntmps12
  have ok0 : Ok w (w.alloc (.cells (spC ⟨#[]⟩ none 0 0 0 0 0 0) 29)) := (Ok.refl w).alloc _
  go_wp2_with fail
  refine (HA1.out _ ok0).mono ?_
  rintro E w1 ⟨rfl, rfl⟩
  go_wp2_with fail
  refine (HA2.out _ ok0).mono ?_
  rintro E w1 ⟨rfl, rfl⟩
  go_wp2_with fail
  refine (HA3.out _ ok0).mono ?_
  rintro E w1 ⟨rfl, rfl⟩
  go_upto_region 2 with fail
  have k2 : Blk ((w.alloc (.cells (spC ⟨#[]⟩ none 0 0 0 0 0 0) 29)).alloc (.cells #[.string ⟨#[103]⟩, .slice none 0 0, .int .i64 0, .int .i64 N, .int .i64 LO, .int .i64 HI] 29)) (w.heap.size + 1) 29 #[.string ⟨#[103]⟩, .slice none 0 0, .int .i64 0, .int .i64 N, .int .i64 LO, .int .i64 HI] := Blk.new' (by simp)
  have k1 : Blk ((w.alloc (.cells (spC ⟨#[]⟩ none 0 0 0 0 0 0) 29)).alloc (.cells #[.string ⟨#[103]⟩, .slice none 0 0, .int .i64 0, .int .i64 N, .int .i64 LO, .int .i64 HI] 29)) w.heap.size 29 (spC ⟨#[]⟩ none 0 0 0 0 0 0) := (Blk.new w 29 _).alloc _
  have ok2 : Ok w ((w.alloc (.cells (spC ⟨#[]⟩ none 0 0 0 0 0 0) 29)).alloc (.cells #[.string ⟨#[103]⟩, .slice none 0 0, .int .i64 0, .int .i64 N, .int .i64 LO, .int .i64 HI] 29)) := ok0.alloc _
  generalize (w.alloc (.cells (spC ⟨#[]⟩ none 0 0 0 0 0 0) 29)).alloc (.cells #[.string ⟨#[103]⟩, .slice none 0 0, .int .i64 0, .int .i64 N, .int .i64 LO, .int .i64 HI] 29) = wr at *
  clear ok0
  obtain ⟨g, hg⟩ : ∃ g, g = w.heap.size + 1 := ⟨_, rfl⟩
  rw [← hg] at k2 ⊢
  have hgw : w.heap.size < g := by omega
  clear hg
  have c3 : wr.drew.cell? ⟨g, 3, none⟩ = some (.int .i64 N) := k2.drew.at_ rfl
  have c4 : wr.drew.cell? ⟨g, 4, none⟩ = some (.int .i64 LO) := k2.drew.at_ rfl
  have c5 : wr.drew.cell? ⟨g, 5, none⟩ = some (.int .i64 HI) := k2.drew.at_ rfl
  have c2 : wr.drew.cell? ⟨g, 2, none⟩ = some (.int .i64 0) := k2.drew.at_ rfl
  have f2 : wr.drew.frozen? ⟨g, 2, none⟩ = false := k2.drew.frozen 2
  refine wp_region_but (fun W => Ok w W ∧ W.cell? ⟨g, 3, none⟩ = some (.int .i64 N) ∧ W.cell? ⟨g, 4, none⟩ = some (.int .i64 LO) ∧ W.cell? ⟨g, 5, none⟩ = some (.int .i64 HI)) [19] (by kernel_rfl) ⟨ok2.drew, c3, c4, c5⟩ fun hS0 => ?_
  refine wpBut_pure 0 (v := .pointer (some ⟨g, 3, none⟩)) rfl (by kernel_rfl) (fun _ _ _ h => h) ⟨by rfl, fun W => ?_⟩ (fun _ => hS0) ?_
  · go_simp
  simp only [Act.put, List.setIfInBounds_toArray, List.set_cons_zero, List.set_cons_succ]
  refine wpBut_take 1 (v := .int .i64 (N)) rfl (by kernel_rfl) (fun _ _ _ h => h) ⟨by rfl, fun W hW => ?_⟩ hS0 ?_
  · obtain ⟨s0, s1, s2, s3⟩ := hW
    go_simp
  simp only [Act.put, List.setIfInBounds_toArray, List.set_cons_zero, List.set_cons_succ]
  refine wpBut_pure 2 (v := .pointer (some ⟨g, 4, none⟩)) rfl (by kernel_rfl) (fun _ _ _ h => h) ⟨by rfl, fun W => ?_⟩ (fun _ => hS0) ?_
  · go_simp
  simp only [Act.put, List.setIfInBounds_toArray, List.set_cons_zero, List.set_cons_succ]
  refine wpBut_take 3 (v := .int .i64 (LO)) rfl (by kernel_rfl) (fun _ _ _ h => h) ⟨by rfl, fun W hW => ?_⟩ hS0 ?_
  · obtain ⟨s0, s1, s2, s3⟩ := hW
    go_simp
  simp only [Act.put, List.setIfInBounds_toArray, List.set_cons_zero, List.set_cons_succ]
  refine wpBut_pure 4 (v := .int .i64 (X1)) rfl (by kernel_rfl) (fun _ _ _ h => h) ⟨by rfl, fun W => ?_⟩ (fun _ => hS0) ?_
  · go_simp
  simp only [Act.put, List.setIfInBounds_toArray, List.set_cons_zero, List.set_cons_succ]
  refine wpBut_pure 5 (v := .slice A n c) rfl (by kernel_rfl) (fun _ _ _ h => h) ⟨by rfl, fun W => ?_⟩ (fun _ => hS0) ?_
  · go_simp
  simp only [Act.put, List.setIfInBounds_toArray, List.set_cons_zero, List.set_cons_succ]
  refine wpBut_call 6 (v := .int .i64 (r4)) rfl (by kernel_rfl) (fun _ _ _ h => h) ⟨by rfl, fun W hW => ⟨18, _, ?_, HA4.out W hW.1⟩⟩ hS0 ?_
  · go_simp
  simp only [Act.put, List.setIfInBounds_toArray, List.set_cons_zero, List.set_cons_succ]
  refine wpBut_pure 7 (v := .pointer (some ⟨g, 3, none⟩)) rfl (by kernel_rfl) (fun _ _ _ h => h) ⟨by rfl, fun W => ?_⟩ (fun _ => hS0) ?_
  · go_simp
  simp only [Act.put, List.setIfInBounds_toArray, List.set_cons_zero, List.set_cons_succ]
  refine wpBut_take 8 (v := .int .i64 (N)) rfl (by kernel_rfl) (fun _ _ _ h => h) ⟨by rfl, fun W hW => ?_⟩ hS0 ?_
  · obtain ⟨s0, s1, s2, s3⟩ := hW
    go_simp
  simp only [Act.put, List.setIfInBounds_toArray, List.set_cons_zero, List.set_cons_succ]
  refine wpBut_pure 9 (v := .pointer (some ⟨g, 5, none⟩)) rfl (by kernel_rfl) (fun _ _ _ h => h) ⟨by rfl, fun W => ?_⟩ (fun _ => hS0) ?_
  · go_simp
  simp only [Act.put, List.setIfInBounds_toArray, List.set_cons_zero, List.set_cons_succ]
  refine wpBut_take 10 (v := .int .i64 (HI)) rfl (by kernel_rfl) (fun _ _ _ h => h) ⟨by rfl, fun W hW => ?_⟩ hS0 ?_
  · obtain ⟨s0, s1, s2, s3⟩ := hW
    go_simp
  simp only [Act.put, List.setIfInBounds_toArray, List.set_cons_zero, List.set_cons_succ]
  refine wpBut_pure 11 (v := .pointer (some ⟨g, 4, none⟩)) rfl (by kernel_rfl) (fun _ _ _ h => h) ⟨by rfl, fun W => ?_⟩ (fun _ => hS0) ?_
  · go_simp
  simp only [Act.put, List.setIfInBounds_toArray, List.set_cons_zero, List.set_cons_succ]
  refine wpBut_take 12 (v := .int .i64 (LO)) rfl (by kernel_rfl) (fun _ _ _ h => h) ⟨by rfl, fun W hW => ?_⟩ hS0 ?_
  · obtain ⟨s0, s1, s2, s3⟩ := hW
    go_simp
  simp only [Act.put, List.setIfInBounds_toArray, List.set_cons_zero, List.set_cons_succ]
  refine wpBut_pure 13 (v := .int .i64 (HI - LO)) rfl (by kernel_rfl) (fun _ _ _ h => h) ⟨by rfl, fun W => ?_⟩ (fun _ => hS0) ?_
  · go_simp
  simp only [Act.put, List.setIfInBounds_toArray, List.set_cons_zero, List.set_cons_succ]
  refine wpBut_pure 14 (v := .int .i64 (X2)) rfl (by kernel_rfl) (fun _ _ _ h => h) ⟨by rfl, fun W => ?_⟩ (fun _ => hS0) ?_
  · go_simp
  simp only [Act.put, List.setIfInBounds_toArray, List.set_cons_zero, List.set_cons_succ]
  refine wpBut_pure 15 (v := .int .i64 (X2 + 1)) rfl (by kernel_rfl) (fun _ _ _ h => h) ⟨by rfl, fun W => ?_⟩ (fun _ => hS0) ?_
  · go_simp
  simp only [Act.put, List.setIfInBounds_toArray, List.set_cons_zero, List.set_cons_succ]
  refine wpBut_pure 16 (v := .int .i64 (R)) rfl (by kernel_rfl) (fun _ _ _ h => h) ⟨by rfl, fun W => ?_⟩ (fun _ => hS0) ?_
  · go_simp
  simp only [Act.put, List.setIfInBounds_toArray, List.set_cons_zero, List.set_cons_succ]
  refine wpBut_pure 17 (v := .int .i64 (X1 + R)) rfl (by kernel_rfl) (fun _ _ _ h => h) ⟨by rfl, fun W => ?_⟩ (fun _ => hS0) ?_
  · go_simp
  simp only [Act.put, List.setIfInBounds_toArray, List.set_cons_zero, List.set_cons_succ]
  refine wpBut_pure 18 (v := .pointer (some ⟨g, 2, none⟩)) rfl (by kernel_rfl) (fun _ _ _ h => h) ⟨by rfl, fun W => ?_⟩ (fun _ => hS0) ?_
  · go_simp
  simp only [Act.put, List.setIfInBounds_toArray, List.set_cons_zero, List.set_cons_succ]
  refine wpBut_seq 19 (g := 0) (by decide) (by decide) (by rfl) (by kernel_rfl) ?_
  simp only [List.drop_succ_cons, List.drop_zero]
  have kn' : Blk (wr.setCell ⟨g, 2, none⟩ (.int .i64 (X1 + R))).drew g 29 #[.string ⟨#[103]⟩, .slice none 0 0, .int .i64 (X1 + R), .int .i64 N, .int .i64 LO, .int .i64 HI] := k2.drew.set_ 2 (.int .i64 (X1 + R))
  have d0 : (wr.setCell ⟨g, 2, none⟩ (.int .i64 (X1 + R))).drew.cell? ⟨g, 0, none⟩ = some (.string ⟨#[103]⟩) := kn'.at_ rfl
  have d1 : (wr.setCell ⟨g, 2, none⟩ (.int .i64 (X1 + R))).drew.cell? ⟨g, 1, none⟩ = some (.slice none 0 0) := kn'.at_ rfl
  have d2 : (wr.setCell ⟨g, 2, none⟩ (.int .i64 (X1 + R))).drew.cell? ⟨g, 2, none⟩ = some (.int .i64 (X1 + R)) := kn'.at_ rfl
  have d3 : (wr.setCell ⟨g, 2, none⟩ (.int .i64 (X1 + R))).drew.cell? ⟨g, 3, none⟩ = some (.int .i64 N) := kn'.at_ rfl
  have d4 : (wr.setCell ⟨g, 2, none⟩ (.int .i64 (X1 + R))).drew.cell? ⟨g, 4, none⟩ = some (.int .i64 LO) := kn'.at_ rfl
  have d5 : (wr.setCell ⟨g, 2, none⟩ (.int .i64 (X1 + R))).drew.cell? ⟨g, 5, none⟩ = some (.int .i64 HI) := kn'.at_ rfl
  have kr' : Blk (wr.setCell ⟨g, 2, none⟩ (.int .i64 (X1 + R))).drew w.heap.size 29 (spC ⟨#[]⟩ none 0 0 0 0 0 0) := (k1.far (by simp; omega) _).drew
  have kb' : Ok w (wr.setCell ⟨g, 2, none⟩ (.int .i64 (X1 + R))).drew := Ok.drew ((show Below w.heap.size w wr from ok2).setCell (by simp; omega) _)
  have y0 : (wr.setCell ⟨g, 2, none⟩ (.int .i64 (X1 + R))).drew.cell? ⟨w.heap.size, 0, none⟩ = some (.string ⟨#[]⟩) := kr'.at_ rfl
  have z0 : (wr.setCell ⟨g, 2, none⟩ (.int .i64 (X1 + R))).drew.frozen? ⟨w.heap.size, 0, none⟩ = false := kr'.frozen 0
  have y1 : (wr.setCell ⟨g, 2, none⟩ (.int .i64 (X1 + R))).drew.cell? ⟨w.heap.size, 1, none⟩ = some (.slice none 0 0) := kr'.at_ rfl
  have z1 : (wr.setCell ⟨g, 2, none⟩ (.int .i64 (X1 + R))).drew.frozen? ⟨w.heap.size, 1, none⟩ = false := kr'.frozen 1
  have y2 : (wr.setCell ⟨g, 2, none⟩ (.int .i64 (X1 + R))).drew.cell? ⟨w.heap.size, 2, none⟩ = some (.int .i64 0) := kr'.at_ rfl
  have z2 : (wr.setCell ⟨g, 2, none⟩ (.int .i64 (X1 + R))).drew.frozen? ⟨w.heap.size, 2, none⟩ = false := kr'.frozen 2
  have y3 : (wr.setCell ⟨g, 2, none⟩ (.int .i64 (X1 + R))).drew.cell? ⟨w.heap.size, 3, none⟩ = some (.int .i64 0) := kr'.at_ rfl
  have z3 : (wr.setCell ⟨g, 2, none⟩ (.int .i64 (X1 + R))).drew.frozen? ⟨w.heap.size, 3, none⟩ = false := kr'.frozen 3
  have y4 : (wr.setCell ⟨g, 2, none⟩ (.int .i64 (X1 + R))).drew.cell? ⟨w.heap.size, 4, none⟩ = some (.int .i64 0) := kr'.at_ rfl
  have z4 : (wr.setCell ⟨g, 2, none⟩ (.int .i64 (X1 + R))).drew.frozen? ⟨w.heap.size, 4, none⟩ = false := kr'.frozen 4
  have y5 : (wr.setCell ⟨g, 2, none⟩ (.int .i64 (X1 + R))).drew.cell? ⟨w.heap.size, 5, none⟩ = some (.int .i64 0) := kr'.at_ rfl
  have z5 : (wr.setCell ⟨g, 2, none⟩ (.int .i64 (X1 + R))).drew.frozen? ⟨w.heap.size, 5, none⟩ = false := kr'.frozen 5
  clear hS0 c3 c4 c5 k1 k2 ok2
  go_upto_region 3 with fail
  generalize (wr.setCell ⟨g, 2, none⟩ (.int .i64 (X1 + R))).drew = w8 at *
  go_wp2_with fail
  have kf := (((((kr'.set_ 0 (.string ⟨#[103]⟩)).set_ 1 (.slice none 0 0)).set_ 2 (.int .i64 (X1 + R))).set_ 3 (.int .i64 N)).set_ 4 (.int .i64 LO)).set_ 5 (.int .i64 HI)
  have e2 : Ok w ((((((w8.setCell ⟨w.heap.size, 0, none⟩ (.string ⟨#[103]⟩)).setCell ⟨w.heap.size, 1, none⟩ (.slice none 0 0)).setCell ⟨w.heap.size, 2, none⟩ (.int .i64 (X1 + R))).setCell ⟨w.heap.size, 3, none⟩ (.int .i64 N)).setCell ⟨w.heap.size, 4, none⟩ (.int .i64 LO)).setCell ⟨w.heap.size, 5, none⟩ (.int .i64 HI)) :=
    ((((((show Below w.heap.size w w8 from kb').setCell (Nat.le_refl _) _).setCell (Nat.le_refl _) _).setCell (Nat.le_refl _) _).setCell (Nat.le_refl _) _).setCell (Nat.le_refl _) _).setCell (Nat.le_refl _) _
  refine ret_row (g := w.heap.size) (cs := spC ⟨#[103]⟩ none 0 0 (X1 + R) N LO HI) (t := 29) Tryd.results12 rfl kf rfl Tryd.underlying29 info29 rfl ?_
  obtain ⟨f1, f2, f3, f4⟩ := HB.out
  have hNn : ((N.toNat : Nat) : Int) = N := by omega
  refine ⟨X1 + R, LO, HI, N.toNat, by rw [hNn], by omega, by omega, by omega, by omega, by omega, ?_, ?_, e2⟩
  · rw [hNn, ← f3]; omega
  · rw [hNn, f4]; omega
end Go.Proofs.YtkchalnohkfhbaaDoor
