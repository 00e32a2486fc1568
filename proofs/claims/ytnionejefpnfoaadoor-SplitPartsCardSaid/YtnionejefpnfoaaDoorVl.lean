/- The walk of Bent: some split comes out that is behind one bend more. Conditions: the ranges that the theorem states. -/
import Derived.Test.YtnionejefpnfoaaDoorVu
import Derived.Deep.CutBlock
import Derived.Laws.Concat
import Derived.OwnWalk
set_option linter.unusedSimpArgs false
set_option linter.unusedVariables false
namespace Go.Proofs.YtnionejefpnfoaaDoor
open Go.RowKit Go.Shelf Go

theorem i64_wrap (x : Int) : I64 (IntKind.i64.wrap x) := by rw [IntKind.wrap_i64]; unfold I64; omega
/-- what a bent split is made of -/
def BentOf (j : Nat) (W : World) (s : ByteArray) (A : Option Addr) (n : Nat) (l : List Int) (T N lo hi : Int) : Prop := Reads W W.heap.size 1 A n (ints l) ∧ Cls j s l N ∧ I64 T ∧ I64 lo ∧ I64 hi ∧ ∀ x ∈ l, I64 x
theorem reads_set {W : World} {A : Option Addr} {n : Nat} {l : List Int} {p : Addr} (h : Reads W W.heap.size 1 A n (ints l)) (hne : n = 0 ∨ ∃ ad : Addr, A = some ad ∧ ad.block ≠ p.block) (u : Value) : Reads (W.setCell p u) (W.setCell p u).heap.size 1 A n (ints l) := by
  refine ⟨h.1, fun h0 => ?_⟩
  obtain ⟨ad, e, hb, hc⟩ := h.2 h0
  rcases hne with k | ⟨ad', k1, k2⟩
  · omega
  · rw [k1] at e
    injection e with e
    subst e
    refine ⟨_, k1, by simpa using hb, fun i v hv => ?_⟩
    have hbl : (ad'.add i).block = ad'.block := by unfold Addr.add; split <;> rfl
    exact (World.cell?_setCell_other W p (ad'.add i) u (fun e => k2 (by rw [← hbl, e]))).trans (hc i v hv)
set_option maxRecDepth 100000 in
set_option maxHeartbeats 64000000 in
theorem bent_any {s : ByteArray} {A : Option Addr} {n c : Nat} {l : List Int} {T N lo hi : Int} {j : Nat} (hj : j ≤ 1) (w : World) (hR : Reads w w.heap.size 1 A n (ints l)) (hC : Cls j s l N) (hT : I64 T) (hlo : I64 lo) (hhi : I64 hi) (hI : ∀ x ∈ l, I64 x) (how by_ : Int) (hh : I64 how) (hb : I64 by_) :
    Calls Tryd.prog 5 #[spV s A n c T N lo hi, .int .i64 how, .int .i64 by_] w fun E W' => ∃ s' A' n' c' l' T' N' lo' hi', E = .returned (spV s' A' n' c' T' N' lo' hi') ∧ BentOf (j + 1) W' s' A' n' l' T' N' lo' hi' ∧ Below w.heap.size w W' := by
  have HARH : Hid (∀ W, Calls Tryd.prog 12 #[.int .i64 how, .int .i64 7] W fun e w' => e = .returned (.int .i64 (around how 7)) ∧ w' = W) := Lib.hid fun W => around_any how 7 W hh.1 hh.2 (by omega) (by omega)
  have hx7 := around_lt how 7 (by omega)
  generalize around how 7 = h0 at *
  have HA4 : Hid (∀ W, Calls Tryd.prog 12 #[.int .i64 by_, .int .i64 4] W fun e w' => e = .returned (.int .i64 (around by_ 4)) ∧ w' = W) := Lib.hid fun W => around_any by_ 4 W hb.1 hb.2 (by omega) (by omega)
  have hx4 := around_lt by_ 4 (by omega)
  generalize around by_ 4 = r4 at *
  have HA5 : Hid (∀ W, Calls Tryd.prog 12 #[.int .i64 by_, .int .i64 5] W fun e w' => e = .returned (.int .i64 (around by_ 5)) ∧ w' = W) := Lib.hid fun W => around_any by_ 5 W hb.1 hb.2 (by omega) (by omega)
  have hx5 := around_lt by_ 5 (by omega)
  generalize around by_ 5 = r5 at *
  have HA6 : Hid (∀ W, Calls Tryd.prog 12 #[.int .i64 by_, .int .i64 6] W fun e w' => e = .returned (.int .i64 (around by_ 6)) ∧ w' = W) := Lib.hid fun W => around_any by_ 6 W hb.1 hb.2 (by omega) (by omega)
  have hx6 := around_lt by_ 6 (by omega)
  generalize around by_ 6 = r6 at *
  have HC := Lib.hid hC
  have HRD := Lib.hid hR
  have HNE : Hid (n = 0 ∨ ∃ ad : Addr, A = some ad ∧ ad.block ≠ w.heap.size + 1) := Lib.hid (by
    rcases Nat.eq_zero_or_pos n with e | e
    · exact .inl e
    · obtain ⟨ad, e1, e2, -⟩ := hR.2 (by omega)
      exact .inr ⟨ad, e1, by omega⟩)
  have HB := Lib.hid (And.intro hT (And.intro hlo (And.intro hhi hI)))
  have hn0 := hC.n0
  have hn1 := hC.n1
  have HX : Hid (∀ x, I64 (IntKind.i64.wrap x)) := Lib.hid i64_wrap
  obtain ⟨X1, hX1⟩ : ∃ x, IntKind.i64.wrap (T + 1) = x := ⟨_, rfl⟩
  have hX1w : RowKit.wrap64 (T + 1) = X1 := (IntWalk.i64_left _).symm.trans hX1
  have IX1 : Hid (I64 X1) := Lib.hid (by rw [← hX1]; exact i64_wrap _)
  obtain ⟨X2, hX2⟩ : ∃ x, IntKind.i64.wrap (T - 1) = x := ⟨_, rfl⟩
  have hX2w : RowKit.wrap64 (T - 1) = X2 := (IntWalk.i64_left _).symm.trans hX2
  have IX2 : Hid (I64 X2) := Lib.hid (by rw [← hX2]; exact i64_wrap _)
  obtain ⟨X3, hX3⟩ : ∃ x, IntKind.i64.wrap (N * lo) = x := ⟨_, rfl⟩
  have hX3w : RowKit.wrap64 (N * lo) = X3 := (IntWalk.i64_left _).symm.trans hX3
  have IX3 : Hid (I64 X3) := Lib.hid (by rw [← hX3]; exact i64_wrap _)
  obtain ⟨X4, hX4⟩ : ∃ x, IntKind.i64.wrap (N * hi) = x := ⟨_, rfl⟩
  have hX4w : RowKit.wrap64 (N * hi) = X4 := (IntWalk.i64_left _).symm.trans hX4
  have IX4 : Hid (I64 X4) := Lib.hid (by rw [← hX4]; exact i64_wrap _)
  obtain ⟨Y1, hY1⟩ : ∃ x, IntKind.i64.wrap (lo - 1) = x := ⟨_, rfl⟩
  have hY1w : RowKit.wrap64 (lo - 1) = Y1 := (IntWalk.i64_left _).symm.trans hY1
  have IY1 : Hid (I64 Y1) := Lib.hid (by rw [← hY1]; exact i64_wrap _)
  obtain ⟨Y2, hY2⟩ : ∃ x, IntKind.i64.wrap (hi + 1) = x := ⟨_, rfl⟩
  have hY2w : RowKit.wrap64 (hi + 1) = Y2 := (IntWalk.i64_left _).symm.trans hY2
  have IY2 : Hid (I64 Y2) := Lib.hid (by rw [← hY2]; exact i64_wrap _)
  have hN1 : IntKind.i64.wrap (N + 1) = N + 1 := wrap_small (by omega) (by omega)
  have HT0 := IX1
  have HT1 := IX2
  have HT2 := IX3
  have HT3 := IX4
  have HT4 : Hid (I64 by_) := Lib.hid hb
  have HL0 := IY1
  have HL1 := IY2
  have HL2 : Hid (I64 (-1048576)) := Lib.hid (by unfold I64; omega)
  have HL3 : Hid (I64 (-1048577)) := Lib.hid (by unfold I64; omega)
  have HL4 : Hid (I64 1048577) := Lib.hid (by unfold I64; omega)
  have HL5 := HT4
  have HH0 := IY2
  have HH1 := IY1
  have HH2 : Hid (I64 1048576) := Lib.hid (by unfold I64; omega)
  have HH3 := HL4
  have HH4 := HL3
  have HH5 := HT4
  have HN : Hid (∀ M : Int, M = -1 ∨ M = N + 1 ∨ M = 65537 ∨ M = 0 → Cls (j + 1) s l M) := Lib.hid (by
    intro M hM
    obtain ⟨d, e, k1, k2, k3⟩ := hC.cls
    refine ⟨⟨d + 1, e, by omega, k2, ?_⟩, hC.path, by omega, by omega, by have := hC.size; omega, hC.len⟩
    rcases k3 with k3 | k3 <;> rcases hM with rfl | rfl | rfl | rfl <;> omega)
  have HN0 : Hid (Cls (j + 1) s l (-1)) := Lib.hid (HN.out _ (by omega))
  have HN1 : Hid (Cls (j + 1) s l (N + 1)) := Lib.hid (HN.out _ (by omega))
  have HN2 : Hid (Cls (j + 1) s l 65537) := Lib.hid (HN.out _ (by omega))
  have HN3 : Hid (Cls (j + 1) s l 0) := Lib.hid (HN.out _ (by omega))
  have z1 : (w.alloc (.cells (spC s A n c T N lo hi) 24)).heap.size = w.heap.size + 1 := by simp
  have k0 : Blk ((w.alloc (.cells (spC s A n c T N lo hi) 24)).alloc (.cells (spC ⟨#[]⟩ none 0 0 0 0 0 0) 24)) w.heap.size 24 (spC s A n c T N lo hi) := (Blk.new w 24 _).alloc _
  have k1 : Blk ((w.alloc (.cells (spC s A n c T N lo hi) 24)).alloc (.cells (spC ⟨#[]⟩ none 0 0 0 0 0 0) 24)) (w.heap.size + 1) 24 (spC ⟨#[]⟩ none 0 0 0 0 0 0) := Blk.new' z1.symm
  have ok0 := ((Ok.refl w).alloc (.cells (spC s A n c T N lo hi) 24)).alloc (.cells (spC ⟨#[]⟩ none 0 0 0 0 0 0) 24)
  have hz1 : ((w.alloc (.cells (spC s A n c T N lo hi) 24)).alloc (.cells (spC ⟨#[]⟩ none 0 0 0 0 0 0) 24)).heap.size = w.heap.size + 2 := by simp
  clear hR hT hlo hhi hI hh hb hC z1
  go_enter Tryd.func5, Tryd.ntmps5
  go_wp2_with fail
  refine (HARH.out _).mono ?_
  rintro E w0 ⟨rfl, rfl⟩
  generalize (w.alloc (.cells (spC s A n c T N lo hi) 24)).alloc (.cells (spC ⟨#[]⟩ none 0 0 0 0 0 0) 24) = w1 at *
  go_upto_block 0 with fail
  go_cut [7] from 10 (fun v7 wx => ∃ s' A' n' c' l' T' N' lo' hi', Blk wx w.heap.size 24 (spC s' A' n' c' T' N' lo' hi') ∧ Blk wx (w.heap.size + 1) 24 (spC ⟨#[]⟩ none 0 0 0 0 0 0) ∧ Ok w wx ∧ Hid (BentOf (j + 1) wx s' A' n' l' T' N' lo' hi') ∧ (n' = 0 ∨ ∃ ad : Addr, A' = some ad ∧ ad.block ≠ w.heap.size + 1))
  case first =>
    have x0 : w1.cell? ⟨w.heap.size, 0, none⟩ = some (.string s) := k0.at_ rfl
    have f0 := k0.frozen 0
    have f1 := k0.frozen 1
    have x1 : w1.cell? ⟨w.heap.size, 1, none⟩ = some (.slice A n c) := k0.at_ rfl
    rcases (show h0 = 0 ∨ h0 = 1 ∨ h0 = 2 ∨ h0 = 3 ∨ h0 = 4 ∨ h0 = 5 ∨ h0 = 6 by omega) with rfl | rfl | rfl | rfl | rfl | rfl | rfl
    · go_upto_region 4 with fail
      refine wp_region_but (fun W => Ok w W ∧ W.cell? ⟨w.heap.size, 2, none⟩ = some (.int .i64 T) ∧ W.cell? ⟨w.heap.size, 3, none⟩ = some (.int .i64 N) ∧ W.cell? ⟨w.heap.size, 4, none⟩ = some (.int .i64 lo) ∧ W.cell? ⟨w.heap.size, 5, none⟩ = some (.int .i64 hi)) [23] (by kernel_rfl) ⟨ok0.drew, k0.drew.at_ rfl, k0.drew.at_ rfl, k0.drew.at_ rfl, k0.drew.at_ rfl⟩ fun hS0 => ?_
      refine wpBut_pure 0 (v := .pointer (some ⟨w.heap.size, 2, none⟩)) rfl (by kernel_rfl) (fun _ _ _ h => h) ⟨by rfl, fun W => ?_⟩ (fun _ => hS0) ?_
      · go_simp
      simp only [Act.put, List.setIfInBounds_toArray, List.set_cons_zero, List.set_cons_succ]
      refine wpBut_take 1 (v := .int .i64 T) rfl (by kernel_rfl) (fun _ _ _ h => h) ⟨by rfl, fun W hW => ?_⟩ hS0 ?_
      · obtain ⟨s9, s2, s3, s4, s5⟩ := hW
        go_simp
      simp only [Act.put, List.setIfInBounds_toArray, List.set_cons_zero, List.set_cons_succ]
      refine wpBut_pure 2 (v := .int .i64 X1) rfl (by kernel_rfl) (fun _ _ _ h => h) ⟨by rfl, fun W => ?_⟩ (fun _ => hS0) ?_
      · go_simp
      simp only [Act.put, List.setIfInBounds_toArray, List.set_cons_zero, List.set_cons_succ]
      refine wpBut_pure 3 (v := .pointer (some ⟨w.heap.size, 2, none⟩)) rfl (by kernel_rfl) (fun _ _ _ h => h) ⟨by rfl, fun W => ?_⟩ (fun _ => hS0) ?_
      · go_simp
      simp only [Act.put, List.setIfInBounds_toArray, List.set_cons_zero, List.set_cons_succ]
      refine wpBut_take 4 (v := .int .i64 T) rfl (by kernel_rfl) (fun _ _ _ h => h) ⟨by rfl, fun W hW => ?_⟩ hS0 ?_
      · obtain ⟨s9, s2, s3, s4, s5⟩ := hW
        go_simp
      simp only [Act.put, List.setIfInBounds_toArray, List.set_cons_zero, List.set_cons_succ]
      refine wpBut_pure 5 (v := .int .i64 X2) rfl (by kernel_rfl) (fun _ _ _ h => h) ⟨by rfl, fun W => ?_⟩ (fun _ => hS0) ?_
      · go_simp
      simp only [Act.put, List.setIfInBounds_toArray, List.set_cons_zero, List.set_cons_succ]
      refine wpBut_pure 6 (v := .pointer (some ⟨w.heap.size, 3, none⟩)) rfl (by kernel_rfl) (fun _ _ _ h => h) ⟨by rfl, fun W => ?_⟩ (fun _ => hS0) ?_
      · go_simp
      simp only [Act.put, List.setIfInBounds_toArray, List.set_cons_zero, List.set_cons_succ]
      refine wpBut_take 7 (v := .int .i64 N) rfl (by kernel_rfl) (fun _ _ _ h => h) ⟨by rfl, fun W hW => ?_⟩ hS0 ?_
      · obtain ⟨s9, s2, s3, s4, s5⟩ := hW
        go_simp
      simp only [Act.put, List.setIfInBounds_toArray, List.set_cons_zero, List.set_cons_succ]
      refine wpBut_pure 8 (v := .pointer (some ⟨w.heap.size, 4, none⟩)) rfl (by kernel_rfl) (fun _ _ _ h => h) ⟨by rfl, fun W => ?_⟩ (fun _ => hS0) ?_
      · go_simp
      simp only [Act.put, List.setIfInBounds_toArray, List.set_cons_zero, List.set_cons_succ]
      refine wpBut_take 9 (v := .int .i64 lo) rfl (by kernel_rfl) (fun _ _ _ h => h) ⟨by rfl, fun W hW => ?_⟩ hS0 ?_
      · obtain ⟨s9, s2, s3, s4, s5⟩ := hW
        go_simp
      simp only [Act.put, List.setIfInBounds_toArray, List.set_cons_zero, List.set_cons_succ]
      refine wpBut_pure 10 (v := .int .i64 X3) rfl (by kernel_rfl) (fun _ _ _ h => h) ⟨by rfl, fun W => ?_⟩ (fun _ => hS0) ?_
      · go_simp
      simp only [Act.put, List.setIfInBounds_toArray, List.set_cons_zero, List.set_cons_succ]
      refine wpBut_pure 11 (v := .pointer (some ⟨w.heap.size, 3, none⟩)) rfl (by kernel_rfl) (fun _ _ _ h => h) ⟨by rfl, fun W => ?_⟩ (fun _ => hS0) ?_
      · go_simp
      simp only [Act.put, List.setIfInBounds_toArray, List.set_cons_zero, List.set_cons_succ]
      refine wpBut_take 12 (v := .int .i64 N) rfl (by kernel_rfl) (fun _ _ _ h => h) ⟨by rfl, fun W hW => ?_⟩ hS0 ?_
      · obtain ⟨s9, s2, s3, s4, s5⟩ := hW
        go_simp
      simp only [Act.put, List.setIfInBounds_toArray, List.set_cons_zero, List.set_cons_succ]
      refine wpBut_pure 13 (v := .pointer (some ⟨w.heap.size, 5, none⟩)) rfl (by kernel_rfl) (fun _ _ _ h => h) ⟨by rfl, fun W => ?_⟩ (fun _ => hS0) ?_
      · go_simp
      simp only [Act.put, List.setIfInBounds_toArray, List.set_cons_zero, List.set_cons_succ]
      refine wpBut_take 14 (v := .int .i64 hi) rfl (by kernel_rfl) (fun _ _ _ h => h) ⟨by rfl, fun W hW => ?_⟩ hS0 ?_
      · obtain ⟨s9, s2, s3, s4, s5⟩ := hW
        go_simp
      simp only [Act.put, List.setIfInBounds_toArray, List.set_cons_zero, List.set_cons_succ]
      refine wpBut_pure 15 (v := .int .i64 X4) rfl (by kernel_rfl) (fun _ _ _ h => h) ⟨by rfl, fun W => ?_⟩ (fun _ => hS0) ?_
      · go_simp
      simp only [Act.put, List.setIfInBounds_toArray, List.set_cons_zero, List.set_cons_succ]
      refine wpBut_pure 16 (v := .int .i64 by_) rfl (by kernel_rfl) (fun _ _ _ h => h) ⟨by rfl, fun W => ?_⟩ (fun _ => hS0) ?_
      · go_simp
      simp only [Act.put, List.setIfInBounds_toArray, List.set_cons_zero, List.set_cons_succ]
      refine wpBut_pure 18 (v := .int .i64 by_) rfl (by kernel_rfl) (fun _ _ _ h => h) ⟨by rfl, fun W => ?_⟩ (fun _ => hS0) ?_
      · go_simp
      simp only [Act.put, List.setIfInBounds_toArray, List.set_cons_zero, List.set_cons_succ]
      refine wpBut_call 19 (v := .int .i64 r5) rfl (by kernel_rfl) (fun _ _ _ h => h) ⟨by rfl, fun W hW => ⟨12, _, ?_, HA5.out W⟩⟩ hS0 ?_
      · go_simp
      simp only [Act.put, List.setIfInBounds_toArray, List.set_cons_zero, List.set_cons_succ]
      refine wpBut_one 17 rfl (by kernel_rfl) fun K hK => ?_
      go_simp
      have ka := (k0.alloc (.cells #[.int .i64 X1, .int .i64 X2, .int .i64 X3, .int .i64 X4, .int .i64 by_] 3)).drew
      have kb := (k1.alloc (.cells #[.int .i64 X1, .int .i64 X2, .int .i64 X3, .int .i64 X4, .int .i64 by_] 3)).drew
      have oka := (ok0.alloc (.cells #[.int .i64 X1, .int .i64 X2, .int .i64 X3, .int .i64 X4, .int .i64 by_] 3)).drew
      have kn : Blk (w1.alloc (.cells #[.int .i64 X1, .int .i64 X2, .int .i64 X3, .int .i64 X4, .int .i64 by_] 3)).drew (w.heap.size + 2) 3 #[.int .i64 X1, .int .i64 X2, .int .i64 X3, .int .i64 X4, .int .i64 by_] := (Blk.new' hz1.symm).drew
      refine hK.out _ _ ⟨oka, ka.at_ rfl, ka.at_ rfl, ka.at_ rfl, ka.at_ rfl⟩ fun hSA => ?_
      clear hK K
      rcases (show r5 = 0 ∨ r5 = 1 ∨ r5 = 2 ∨ r5 = 3 ∨ r5 = 4 by omega) with rfl | rfl | rfl | rfl | rfl
      · have hc : (w1.alloc (.cells #[.int .i64 X1, .int .i64 X2, .int .i64 X3, .int .i64 X4, .int .i64 by_] 3)).drew.cell? ⟨w.heap.size + 2, 0, none⟩ = some (.int .i64 X1) := kn.at_ rfl
        refine wpBut_pure 20 (v := .pointer (some ⟨w.heap.size + 2, 0, none⟩)) rfl (by kernel_rfl) (fun _ _ _ h => h) ⟨by rfl, fun W => ?_⟩ (fun _ => hSA) ?_
        · go_simp
        simp only [Act.put, List.setIfInBounds_toArray, List.set_cons_zero, List.set_cons_succ]
        refine wpBut_imp (S2 := fun W => (Ok w W ∧ W.cell? ⟨w.heap.size, 2, none⟩ = some (.int .i64 T) ∧ W.cell? ⟨w.heap.size, 3, none⟩ = some (.int .i64 N) ∧ W.cell? ⟨w.heap.size, 4, none⟩ = some (.int .i64 lo) ∧ W.cell? ⟨w.heap.size, 5, none⟩ = some (.int .i64 hi)) ∧ W.cell? ⟨w.heap.size + 2, 0, none⟩ = some (.int .i64 X1)) (fun _ h => h.1) _ _ _ _ ?_
        refine wpBut_take 21 (v := .int .i64 X1) rfl (by kernel_rfl) (fun _ _ _ h => h) ⟨by rfl, fun W hW => ?_⟩ ⟨hSA, hc⟩ ?_
        · obtain ⟨-, s1⟩ := hW
          go_simp
        simp only [Act.put, List.setIfInBounds_toArray, List.set_cons_zero, List.set_cons_succ]
        refine wpBut_pure 22 (v := .pointer (some ⟨w.heap.size, 2, none⟩)) rfl (by kernel_rfl) (fun _ _ _ h => h) ⟨by rfl, fun W => ?_⟩ (fun _ => ⟨hSA, hc⟩) ?_
        · go_simp
        simp only [Act.put, List.setIfInBounds_toArray, List.set_cons_zero, List.set_cons_succ]
        have f0 := ka.frozen 2
        have c0 : (w1.alloc (.cells #[.int .i64 X1, .int .i64 X2, .int .i64 X3, .int .i64 X4, .int .i64 by_] 3)).drew.cell? ⟨w.heap.size, 2, none⟩ = some _ := ka.at_ rfl
        refine wpBut_seq 23 (g := 0) (by decide) (by decide) (by rfl) (by kernel_rfl) ?_
        simp only [List.drop_succ_cons, List.drop_zero]
        go_wp2_with fail
        go_meet
        have okF : Ok w ((w1.setCell ⟨w.heap.size, 2, none⟩ (.int .i64 X1)).alloc (.cells #[.int .i64 X1, .int .i64 X2, .int .i64 X3, .int .i64 X4, .int .i64 by_] 3)).drew := Ok.drew (Ok.alloc (show Ok w (w1.setCell ⟨w.heap.size, 2, none⟩ (.int .i64 X1)) from (show Below w.heap.size w w1 from ok0).setCell (Nat.le_refl _) _) (.cells #[.int .i64 X1, .int .i64 X2, .int .i64 X3, .int .i64 X4, .int .i64 by_] 3))
        exact ⟨s, A, n, c, l, X1, N, lo, hi, ((k0.set_ 2 _).alloc _).drew, ((k1.far (p := ⟨w.heap.size, 2, none⟩) (by simp) _).alloc _).drew, okF, Lib.hid ⟨(HRD.out.below okF).more (Below.size okF), HC.out.more (by omega), HT0.out, HB.out.2.1, HB.out.2.2.1, HB.out.2.2.2⟩, HNE.out⟩
      · have hc : (w1.alloc (.cells #[.int .i64 X1, .int .i64 X2, .int .i64 X3, .int .i64 X4, .int .i64 by_] 3)).drew.cell? ⟨w.heap.size + 2, 1, none⟩ = some (.int .i64 X2) := kn.at_ rfl
        refine wpBut_pure 20 (v := .pointer (some ⟨w.heap.size + 2, 1, none⟩)) rfl (by kernel_rfl) (fun _ _ _ h => h) ⟨by rfl, fun W => ?_⟩ (fun _ => hSA) ?_
        · go_simp
        simp only [Act.put, List.setIfInBounds_toArray, List.set_cons_zero, List.set_cons_succ]
        refine wpBut_imp (S2 := fun W => (Ok w W ∧ W.cell? ⟨w.heap.size, 2, none⟩ = some (.int .i64 T) ∧ W.cell? ⟨w.heap.size, 3, none⟩ = some (.int .i64 N) ∧ W.cell? ⟨w.heap.size, 4, none⟩ = some (.int .i64 lo) ∧ W.cell? ⟨w.heap.size, 5, none⟩ = some (.int .i64 hi)) ∧ W.cell? ⟨w.heap.size + 2, 1, none⟩ = some (.int .i64 X2)) (fun _ h => h.1) _ _ _ _ ?_
        refine wpBut_take 21 (v := .int .i64 X2) rfl (by kernel_rfl) (fun _ _ _ h => h) ⟨by rfl, fun W hW => ?_⟩ ⟨hSA, hc⟩ ?_
        · obtain ⟨-, s1⟩ := hW
          go_simp
        simp only [Act.put, List.setIfInBounds_toArray, List.set_cons_zero, List.set_cons_succ]
        refine wpBut_pure 22 (v := .pointer (some ⟨w.heap.size, 2, none⟩)) rfl (by kernel_rfl) (fun _ _ _ h => h) ⟨by rfl, fun W => ?_⟩ (fun _ => ⟨hSA, hc⟩) ?_
        · go_simp
        simp only [Act.put, List.setIfInBounds_toArray, List.set_cons_zero, List.set_cons_succ]
        have f0 := ka.frozen 2
        have c0 : (w1.alloc (.cells #[.int .i64 X1, .int .i64 X2, .int .i64 X3, .int .i64 X4, .int .i64 by_] 3)).drew.cell? ⟨w.heap.size, 2, none⟩ = some _ := ka.at_ rfl
        refine wpBut_seq 23 (g := 0) (by decide) (by decide) (by rfl) (by kernel_rfl) ?_
        simp only [List.drop_succ_cons, List.drop_zero]
        go_wp2_with fail
        go_meet
        have okF : Ok w ((w1.setCell ⟨w.heap.size, 2, none⟩ (.int .i64 X2)).alloc (.cells #[.int .i64 X1, .int .i64 X2, .int .i64 X3, .int .i64 X4, .int .i64 by_] 3)).drew := Ok.drew (Ok.alloc (show Ok w (w1.setCell ⟨w.heap.size, 2, none⟩ (.int .i64 X2)) from (show Below w.heap.size w w1 from ok0).setCell (Nat.le_refl _) _) (.cells #[.int .i64 X1, .int .i64 X2, .int .i64 X3, .int .i64 X4, .int .i64 by_] 3))
        exact ⟨s, A, n, c, l, X2, N, lo, hi, ((k0.set_ 2 _).alloc _).drew, ((k1.far (p := ⟨w.heap.size, 2, none⟩) (by simp) _).alloc _).drew, okF, Lib.hid ⟨(HRD.out.below okF).more (Below.size okF), HC.out.more (by omega), HT1.out, HB.out.2.1, HB.out.2.2.1, HB.out.2.2.2⟩, HNE.out⟩
      · have hc : (w1.alloc (.cells #[.int .i64 X1, .int .i64 X2, .int .i64 X3, .int .i64 X4, .int .i64 by_] 3)).drew.cell? ⟨w.heap.size + 2, 2, none⟩ = some (.int .i64 X3) := kn.at_ rfl
        refine wpBut_pure 20 (v := .pointer (some ⟨w.heap.size + 2, 2, none⟩)) rfl (by kernel_rfl) (fun _ _ _ h => h) ⟨by rfl, fun W => ?_⟩ (fun _ => hSA) ?_
        · go_simp
        simp only [Act.put, List.setIfInBounds_toArray, List.set_cons_zero, List.set_cons_succ]
        refine wpBut_imp (S2 := fun W => (Ok w W ∧ W.cell? ⟨w.heap.size, 2, none⟩ = some (.int .i64 T) ∧ W.cell? ⟨w.heap.size, 3, none⟩ = some (.int .i64 N) ∧ W.cell? ⟨w.heap.size, 4, none⟩ = some (.int .i64 lo) ∧ W.cell? ⟨w.heap.size, 5, none⟩ = some (.int .i64 hi)) ∧ W.cell? ⟨w.heap.size + 2, 2, none⟩ = some (.int .i64 X3)) (fun _ h => h.1) _ _ _ _ ?_
        refine wpBut_take 21 (v := .int .i64 X3) rfl (by kernel_rfl) (fun _ _ _ h => h) ⟨by rfl, fun W hW => ?_⟩ ⟨hSA, hc⟩ ?_
        · obtain ⟨-, s1⟩ := hW
          go_simp
        simp only [Act.put, List.setIfInBounds_toArray, List.set_cons_zero, List.set_cons_succ]
        refine wpBut_pure 22 (v := .pointer (some ⟨w.heap.size, 2, none⟩)) rfl (by kernel_rfl) (fun _ _ _ h => h) ⟨by rfl, fun W => ?_⟩ (fun _ => ⟨hSA, hc⟩) ?_
        · go_simp
        simp only [Act.put, List.setIfInBounds_toArray, List.set_cons_zero, List.set_cons_succ]
        have f0 := ka.frozen 2
        have c0 : (w1.alloc (.cells #[.int .i64 X1, .int .i64 X2, .int .i64 X3, .int .i64 X4, .int .i64 by_] 3)).drew.cell? ⟨w.heap.size, 2, none⟩ = some _ := ka.at_ rfl
        refine wpBut_seq 23 (g := 0) (by decide) (by decide) (by rfl) (by kernel_rfl) ?_
        simp only [List.drop_succ_cons, List.drop_zero]
        go_wp2_with fail
        go_meet
        have okF : Ok w ((w1.setCell ⟨w.heap.size, 2, none⟩ (.int .i64 X3)).alloc (.cells #[.int .i64 X1, .int .i64 X2, .int .i64 X3, .int .i64 X4, .int .i64 by_] 3)).drew := Ok.drew (Ok.alloc (show Ok w (w1.setCell ⟨w.heap.size, 2, none⟩ (.int .i64 X3)) from (show Below w.heap.size w w1 from ok0).setCell (Nat.le_refl _) _) (.cells #[.int .i64 X1, .int .i64 X2, .int .i64 X3, .int .i64 X4, .int .i64 by_] 3))
        exact ⟨s, A, n, c, l, X3, N, lo, hi, ((k0.set_ 2 _).alloc _).drew, ((k1.far (p := ⟨w.heap.size, 2, none⟩) (by simp) _).alloc _).drew, okF, Lib.hid ⟨(HRD.out.below okF).more (Below.size okF), HC.out.more (by omega), HT2.out, HB.out.2.1, HB.out.2.2.1, HB.out.2.2.2⟩, HNE.out⟩
      · have hc : (w1.alloc (.cells #[.int .i64 X1, .int .i64 X2, .int .i64 X3, .int .i64 X4, .int .i64 by_] 3)).drew.cell? ⟨w.heap.size + 2, 3, none⟩ = some (.int .i64 X4) := kn.at_ rfl
        refine wpBut_pure 20 (v := .pointer (some ⟨w.heap.size + 2, 3, none⟩)) rfl (by kernel_rfl) (fun _ _ _ h => h) ⟨by rfl, fun W => ?_⟩ (fun _ => hSA) ?_
        · go_simp
        simp only [Act.put, List.setIfInBounds_toArray, List.set_cons_zero, List.set_cons_succ]
        refine wpBut_imp (S2 := fun W => (Ok w W ∧ W.cell? ⟨w.heap.size, 2, none⟩ = some (.int .i64 T) ∧ W.cell? ⟨w.heap.size, 3, none⟩ = some (.int .i64 N) ∧ W.cell? ⟨w.heap.size, 4, none⟩ = some (.int .i64 lo) ∧ W.cell? ⟨w.heap.size, 5, none⟩ = some (.int .i64 hi)) ∧ W.cell? ⟨w.heap.size + 2, 3, none⟩ = some (.int .i64 X4)) (fun _ h => h.1) _ _ _ _ ?_
        refine wpBut_take 21 (v := .int .i64 X4) rfl (by kernel_rfl) (fun _ _ _ h => h) ⟨by rfl, fun W hW => ?_⟩ ⟨hSA, hc⟩ ?_
        · obtain ⟨-, s1⟩ := hW
          go_simp
        simp only [Act.put, List.setIfInBounds_toArray, List.set_cons_zero, List.set_cons_succ]
        refine wpBut_pure 22 (v := .pointer (some ⟨w.heap.size, 2, none⟩)) rfl (by kernel_rfl) (fun _ _ _ h => h) ⟨by rfl, fun W => ?_⟩ (fun _ => ⟨hSA, hc⟩) ?_
        · go_simp
        simp only [Act.put, List.setIfInBounds_toArray, List.set_cons_zero, List.set_cons_succ]
        have f0 := ka.frozen 2
        have c0 : (w1.alloc (.cells #[.int .i64 X1, .int .i64 X2, .int .i64 X3, .int .i64 X4, .int .i64 by_] 3)).drew.cell? ⟨w.heap.size, 2, none⟩ = some _ := ka.at_ rfl
        refine wpBut_seq 23 (g := 0) (by decide) (by decide) (by rfl) (by kernel_rfl) ?_
        simp only [List.drop_succ_cons, List.drop_zero]
        go_wp2_with fail
        go_meet
        have okF : Ok w ((w1.setCell ⟨w.heap.size, 2, none⟩ (.int .i64 X4)).alloc (.cells #[.int .i64 X1, .int .i64 X2, .int .i64 X3, .int .i64 X4, .int .i64 by_] 3)).drew := Ok.drew (Ok.alloc (show Ok w (w1.setCell ⟨w.heap.size, 2, none⟩ (.int .i64 X4)) from (show Below w.heap.size w w1 from ok0).setCell (Nat.le_refl _) _) (.cells #[.int .i64 X1, .int .i64 X2, .int .i64 X3, .int .i64 X4, .int .i64 by_] 3))
        exact ⟨s, A, n, c, l, X4, N, lo, hi, ((k0.set_ 2 _).alloc _).drew, ((k1.far (p := ⟨w.heap.size, 2, none⟩) (by simp) _).alloc _).drew, okF, Lib.hid ⟨(HRD.out.below okF).more (Below.size okF), HC.out.more (by omega), HT3.out, HB.out.2.1, HB.out.2.2.1, HB.out.2.2.2⟩, HNE.out⟩
      · have hc : (w1.alloc (.cells #[.int .i64 X1, .int .i64 X2, .int .i64 X3, .int .i64 X4, .int .i64 by_] 3)).drew.cell? ⟨w.heap.size + 2, 4, none⟩ = some (.int .i64 by_) := kn.at_ rfl
        refine wpBut_pure 20 (v := .pointer (some ⟨w.heap.size + 2, 4, none⟩)) rfl (by kernel_rfl) (fun _ _ _ h => h) ⟨by rfl, fun W => ?_⟩ (fun _ => hSA) ?_
        · go_simp
        simp only [Act.put, List.setIfInBounds_toArray, List.set_cons_zero, List.set_cons_succ]
        refine wpBut_imp (S2 := fun W => (Ok w W ∧ W.cell? ⟨w.heap.size, 2, none⟩ = some (.int .i64 T) ∧ W.cell? ⟨w.heap.size, 3, none⟩ = some (.int .i64 N) ∧ W.cell? ⟨w.heap.size, 4, none⟩ = some (.int .i64 lo) ∧ W.cell? ⟨w.heap.size, 5, none⟩ = some (.int .i64 hi)) ∧ W.cell? ⟨w.heap.size + 2, 4, none⟩ = some (.int .i64 by_)) (fun _ h => h.1) _ _ _ _ ?_
        refine wpBut_take 21 (v := .int .i64 by_) rfl (by kernel_rfl) (fun _ _ _ h => h) ⟨by rfl, fun W hW => ?_⟩ ⟨hSA, hc⟩ ?_
        · obtain ⟨-, s1⟩ := hW
          go_simp
        simp only [Act.put, List.setIfInBounds_toArray, List.set_cons_zero, List.set_cons_succ]
        refine wpBut_pure 22 (v := .pointer (some ⟨w.heap.size, 2, none⟩)) rfl (by kernel_rfl) (fun _ _ _ h => h) ⟨by rfl, fun W => ?_⟩ (fun _ => ⟨hSA, hc⟩) ?_
        · go_simp
        simp only [Act.put, List.setIfInBounds_toArray, List.set_cons_zero, List.set_cons_succ]
        have f0 := ka.frozen 2
        have c0 : (w1.alloc (.cells #[.int .i64 X1, .int .i64 X2, .int .i64 X3, .int .i64 X4, .int .i64 by_] 3)).drew.cell? ⟨w.heap.size, 2, none⟩ = some _ := ka.at_ rfl
        refine wpBut_seq 23 (g := 0) (by decide) (by decide) (by rfl) (by kernel_rfl) ?_
        simp only [List.drop_succ_cons, List.drop_zero]
        go_wp2_with fail
        go_meet
        have okF : Ok w ((w1.setCell ⟨w.heap.size, 2, none⟩ (.int .i64 by_)).alloc (.cells #[.int .i64 X1, .int .i64 X2, .int .i64 X3, .int .i64 X4, .int .i64 by_] 3)).drew := Ok.drew (Ok.alloc (show Ok w (w1.setCell ⟨w.heap.size, 2, none⟩ (.int .i64 by_)) from (show Below w.heap.size w w1 from ok0).setCell (Nat.le_refl _) _) (.cells #[.int .i64 X1, .int .i64 X2, .int .i64 X3, .int .i64 X4, .int .i64 by_] 3))
        exact ⟨s, A, n, c, l, by_, N, lo, hi, ((k0.set_ 2 _).alloc _).drew, ((k1.far (p := ⟨w.heap.size, 2, none⟩) (by simp) _).alloc _).drew, okF, Lib.hid ⟨(HRD.out.below okF).more (Below.size okF), HC.out.more (by omega), HT4.out, HB.out.2.1, HB.out.2.2.1, HB.out.2.2.2⟩, HNE.out⟩
    · go_upto_region 6 with fail
      refine wp_region_but (fun W => Ok w W ∧ W.cell? ⟨w.heap.size, 2, none⟩ = some (.int .i64 T) ∧ W.cell? ⟨w.heap.size, 3, none⟩ = some (.int .i64 N) ∧ W.cell? ⟨w.heap.size, 4, none⟩ = some (.int .i64 lo) ∧ W.cell? ⟨w.heap.size, 5, none⟩ = some (.int .i64 hi)) [9] (by kernel_rfl) ⟨ok0.drew, k0.drew.at_ rfl, k0.drew.at_ rfl, k0.drew.at_ rfl, k0.drew.at_ rfl⟩ fun hS0 => ?_
      refine wpBut_pure 0 (v := .pointer (some ⟨w.heap.size, 3, none⟩)) rfl (by kernel_rfl) (fun _ _ _ h => h) ⟨by rfl, fun W => ?_⟩ (fun _ => hS0) ?_
      · go_simp
      simp only [Act.put, List.setIfInBounds_toArray, List.set_cons_zero, List.set_cons_succ]
      refine wpBut_take 1 (v := .int .i64 N) rfl (by kernel_rfl) (fun _ _ _ h => h) ⟨by rfl, fun W hW => ?_⟩ hS0 ?_
      · obtain ⟨s9, s2, s3, s4, s5⟩ := hW
        go_simp
      simp only [Act.put, List.setIfInBounds_toArray, List.set_cons_zero, List.set_cons_succ]
      refine wpBut_pure 2 (v := .int .i64 (N + 1)) rfl (by kernel_rfl) (fun _ _ _ h => h) ⟨by rfl, fun W => ?_⟩ (fun _ => hS0) ?_
      · go_simp
      simp only [Act.put, List.setIfInBounds_toArray, List.set_cons_zero, List.set_cons_succ]
      refine wpBut_pure 4 (v := .int .i64 by_) rfl (by kernel_rfl) (fun _ _ _ h => h) ⟨by rfl, fun W => ?_⟩ (fun _ => hS0) ?_
      · go_simp
      simp only [Act.put, List.setIfInBounds_toArray, List.set_cons_zero, List.set_cons_succ]
      refine wpBut_call 5 (v := .int .i64 r4) rfl (by kernel_rfl) (fun _ _ _ h => h) ⟨by rfl, fun W hW => ⟨12, _, ?_, HA4.out W⟩⟩ hS0 ?_
      · go_simp
      simp only [Act.put, List.setIfInBounds_toArray, List.set_cons_zero, List.set_cons_succ]
      refine wpBut_one 3 rfl (by kernel_rfl) fun K hK => ?_
      go_simp
      have ka := (k0.alloc (.cells #[.int .i64 (-1), .int .i64 (N + 1), .int .i64 65537, .int .i64 0] 3)).drew
      have kb := (k1.alloc (.cells #[.int .i64 (-1), .int .i64 (N + 1), .int .i64 65537, .int .i64 0] 3)).drew
      have oka := (ok0.alloc (.cells #[.int .i64 (-1), .int .i64 (N + 1), .int .i64 65537, .int .i64 0] 3)).drew
      have kn : Blk (w1.alloc (.cells #[.int .i64 (-1), .int .i64 (N + 1), .int .i64 65537, .int .i64 0] 3)).drew (w.heap.size + 2) 3 #[.int .i64 (-1), .int .i64 (N + 1), .int .i64 65537, .int .i64 0] := (Blk.new' hz1.symm).drew
      refine hK.out _ _ ⟨oka, ka.at_ rfl, ka.at_ rfl, ka.at_ rfl, ka.at_ rfl⟩ fun hSA => ?_
      clear hK K
      rcases (show r4 = 0 ∨ r4 = 1 ∨ r4 = 2 ∨ r4 = 3 by omega) with rfl | rfl | rfl | rfl
      · have hc : (w1.alloc (.cells #[.int .i64 (-1), .int .i64 (N + 1), .int .i64 65537, .int .i64 0] 3)).drew.cell? ⟨w.heap.size + 2, 0, none⟩ = some (.int .i64 (-1)) := kn.at_ rfl
        refine wpBut_pure 6 (v := .pointer (some ⟨w.heap.size + 2, 0, none⟩)) rfl (by kernel_rfl) (fun _ _ _ h => h) ⟨by rfl, fun W => ?_⟩ (fun _ => hSA) ?_
        · go_simp
        simp only [Act.put, List.setIfInBounds_toArray, List.set_cons_zero, List.set_cons_succ]
        refine wpBut_imp (S2 := fun W => (Ok w W ∧ W.cell? ⟨w.heap.size, 2, none⟩ = some (.int .i64 T) ∧ W.cell? ⟨w.heap.size, 3, none⟩ = some (.int .i64 N) ∧ W.cell? ⟨w.heap.size, 4, none⟩ = some (.int .i64 lo) ∧ W.cell? ⟨w.heap.size, 5, none⟩ = some (.int .i64 hi)) ∧ W.cell? ⟨w.heap.size + 2, 0, none⟩ = some (.int .i64 (-1))) (fun _ h => h.1) _ _ _ _ ?_
        refine wpBut_take 7 (v := .int .i64 (-1)) rfl (by kernel_rfl) (fun _ _ _ h => h) ⟨by rfl, fun W hW => ?_⟩ ⟨hSA, hc⟩ ?_
        · obtain ⟨-, s1⟩ := hW
          go_simp
        simp only [Act.put, List.setIfInBounds_toArray, List.set_cons_zero, List.set_cons_succ]
        refine wpBut_pure 8 (v := .pointer (some ⟨w.heap.size, 3, none⟩)) rfl (by kernel_rfl) (fun _ _ _ h => h) ⟨by rfl, fun W => ?_⟩ (fun _ => ⟨hSA, hc⟩) ?_
        · go_simp
        simp only [Act.put, List.setIfInBounds_toArray, List.set_cons_zero, List.set_cons_succ]
        have f0 := ka.frozen 3
        have c0 : (w1.alloc (.cells #[.int .i64 (-1), .int .i64 (N + 1), .int .i64 65537, .int .i64 0] 3)).drew.cell? ⟨w.heap.size, 3, none⟩ = some _ := ka.at_ rfl
        refine wpBut_seq 9 (g := 0) (by decide) (by decide) (by rfl) (by kernel_rfl) ?_
        simp only [List.drop_succ_cons, List.drop_zero]
        go_wp2_with fail
        go_meet
        have okF : Ok w ((w1.setCell ⟨w.heap.size, 3, none⟩ (.int .i64 (-1))).alloc (.cells #[.int .i64 (-1), .int .i64 (N + 1), .int .i64 65537, .int .i64 0] 3)).drew := Ok.drew (Ok.alloc (show Ok w (w1.setCell ⟨w.heap.size, 3, none⟩ (.int .i64 (-1))) from (show Below w.heap.size w w1 from ok0).setCell (Nat.le_refl _) _) (.cells #[.int .i64 (-1), .int .i64 (N + 1), .int .i64 65537, .int .i64 0] 3))
        exact ⟨s, A, n, c, l, T, (-1), lo, hi, ((k0.set_ 3 _).alloc _).drew, ((k1.far (p := ⟨w.heap.size, 3, none⟩) (by simp) _).alloc _).drew, okF, Lib.hid ⟨(HRD.out.below okF).more (Below.size okF), HN0.out, HB.out.1, HB.out.2.1, HB.out.2.2.1, HB.out.2.2.2⟩, HNE.out⟩
      · have hc : (w1.alloc (.cells #[.int .i64 (-1), .int .i64 (N + 1), .int .i64 65537, .int .i64 0] 3)).drew.cell? ⟨w.heap.size + 2, 1, none⟩ = some (.int .i64 (N + 1)) := kn.at_ rfl
        refine wpBut_pure 6 (v := .pointer (some ⟨w.heap.size + 2, 1, none⟩)) rfl (by kernel_rfl) (fun _ _ _ h => h) ⟨by rfl, fun W => ?_⟩ (fun _ => hSA) ?_
        · go_simp
        simp only [Act.put, List.setIfInBounds_toArray, List.set_cons_zero, List.set_cons_succ]
        refine wpBut_imp (S2 := fun W => (Ok w W ∧ W.cell? ⟨w.heap.size, 2, none⟩ = some (.int .i64 T) ∧ W.cell? ⟨w.heap.size, 3, none⟩ = some (.int .i64 N) ∧ W.cell? ⟨w.heap.size, 4, none⟩ = some (.int .i64 lo) ∧ W.cell? ⟨w.heap.size, 5, none⟩ = some (.int .i64 hi)) ∧ W.cell? ⟨w.heap.size + 2, 1, none⟩ = some (.int .i64 (N + 1))) (fun _ h => h.1) _ _ _ _ ?_
        refine wpBut_take 7 (v := .int .i64 (N + 1)) rfl (by kernel_rfl) (fun _ _ _ h => h) ⟨by rfl, fun W hW => ?_⟩ ⟨hSA, hc⟩ ?_
        · obtain ⟨-, s1⟩ := hW
          go_simp
        simp only [Act.put, List.setIfInBounds_toArray, List.set_cons_zero, List.set_cons_succ]
        refine wpBut_pure 8 (v := .pointer (some ⟨w.heap.size, 3, none⟩)) rfl (by kernel_rfl) (fun _ _ _ h => h) ⟨by rfl, fun W => ?_⟩ (fun _ => ⟨hSA, hc⟩) ?_
        · go_simp
        simp only [Act.put, List.setIfInBounds_toArray, List.set_cons_zero, List.set_cons_succ]
        have f0 := ka.frozen 3
        have c0 : (w1.alloc (.cells #[.int .i64 (-1), .int .i64 (N + 1), .int .i64 65537, .int .i64 0] 3)).drew.cell? ⟨w.heap.size, 3, none⟩ = some _ := ka.at_ rfl
        refine wpBut_seq 9 (g := 0) (by decide) (by decide) (by rfl) (by kernel_rfl) ?_
        simp only [List.drop_succ_cons, List.drop_zero]
        go_wp2_with fail
        go_meet
        have okF : Ok w ((w1.setCell ⟨w.heap.size, 3, none⟩ (.int .i64 (N + 1))).alloc (.cells #[.int .i64 (-1), .int .i64 (N + 1), .int .i64 65537, .int .i64 0] 3)).drew := Ok.drew (Ok.alloc (show Ok w (w1.setCell ⟨w.heap.size, 3, none⟩ (.int .i64 (N + 1))) from (show Below w.heap.size w w1 from ok0).setCell (Nat.le_refl _) _) (.cells #[.int .i64 (-1), .int .i64 (N + 1), .int .i64 65537, .int .i64 0] 3))
        exact ⟨s, A, n, c, l, T, (N + 1), lo, hi, ((k0.set_ 3 _).alloc _).drew, ((k1.far (p := ⟨w.heap.size, 3, none⟩) (by simp) _).alloc _).drew, okF, Lib.hid ⟨(HRD.out.below okF).more (Below.size okF), HN1.out, HB.out.1, HB.out.2.1, HB.out.2.2.1, HB.out.2.2.2⟩, HNE.out⟩
      · have hc : (w1.alloc (.cells #[.int .i64 (-1), .int .i64 (N + 1), .int .i64 65537, .int .i64 0] 3)).drew.cell? ⟨w.heap.size + 2, 2, none⟩ = some (.int .i64 65537) := kn.at_ rfl
        refine wpBut_pure 6 (v := .pointer (some ⟨w.heap.size + 2, 2, none⟩)) rfl (by kernel_rfl) (fun _ _ _ h => h) ⟨by rfl, fun W => ?_⟩ (fun _ => hSA) ?_
        · go_simp
        simp only [Act.put, List.setIfInBounds_toArray, List.set_cons_zero, List.set_cons_succ]
        refine wpBut_imp (S2 := fun W => (Ok w W ∧ W.cell? ⟨w.heap.size, 2, none⟩ = some (.int .i64 T) ∧ W.cell? ⟨w.heap.size, 3, none⟩ = some (.int .i64 N) ∧ W.cell? ⟨w.heap.size, 4, none⟩ = some (.int .i64 lo) ∧ W.cell? ⟨w.heap.size, 5, none⟩ = some (.int .i64 hi)) ∧ W.cell? ⟨w.heap.size + 2, 2, none⟩ = some (.int .i64 65537)) (fun _ h => h.1) _ _ _ _ ?_
        refine wpBut_take 7 (v := .int .i64 65537) rfl (by kernel_rfl) (fun _ _ _ h => h) ⟨by rfl, fun W hW => ?_⟩ ⟨hSA, hc⟩ ?_
        · obtain ⟨-, s1⟩ := hW
          go_simp
        simp only [Act.put, List.setIfInBounds_toArray, List.set_cons_zero, List.set_cons_succ]
        refine wpBut_pure 8 (v := .pointer (some ⟨w.heap.size, 3, none⟩)) rfl (by kernel_rfl) (fun _ _ _ h => h) ⟨by rfl, fun W => ?_⟩ (fun _ => ⟨hSA, hc⟩) ?_
        · go_simp
        simp only [Act.put, List.setIfInBounds_toArray, List.set_cons_zero, List.set_cons_succ]
        have f0 := ka.frozen 3
        have c0 : (w1.alloc (.cells #[.int .i64 (-1), .int .i64 (N + 1), .int .i64 65537, .int .i64 0] 3)).drew.cell? ⟨w.heap.size, 3, none⟩ = some _ := ka.at_ rfl
        refine wpBut_seq 9 (g := 0) (by decide) (by decide) (by rfl) (by kernel_rfl) ?_
        simp only [List.drop_succ_cons, List.drop_zero]
        go_wp2_with fail
        go_meet
        have okF : Ok w ((w1.setCell ⟨w.heap.size, 3, none⟩ (.int .i64 65537)).alloc (.cells #[.int .i64 (-1), .int .i64 (N + 1), .int .i64 65537, .int .i64 0] 3)).drew := Ok.drew (Ok.alloc (show Ok w (w1.setCell ⟨w.heap.size, 3, none⟩ (.int .i64 65537)) from (show Below w.heap.size w w1 from ok0).setCell (Nat.le_refl _) _) (.cells #[.int .i64 (-1), .int .i64 (N + 1), .int .i64 65537, .int .i64 0] 3))
        exact ⟨s, A, n, c, l, T, 65537, lo, hi, ((k0.set_ 3 _).alloc _).drew, ((k1.far (p := ⟨w.heap.size, 3, none⟩) (by simp) _).alloc _).drew, okF, Lib.hid ⟨(HRD.out.below okF).more (Below.size okF), HN2.out, HB.out.1, HB.out.2.1, HB.out.2.2.1, HB.out.2.2.2⟩, HNE.out⟩
      · have hc : (w1.alloc (.cells #[.int .i64 (-1), .int .i64 (N + 1), .int .i64 65537, .int .i64 0] 3)).drew.cell? ⟨w.heap.size + 2, 3, none⟩ = some (.int .i64 0) := kn.at_ rfl
        refine wpBut_pure 6 (v := .pointer (some ⟨w.heap.size + 2, 3, none⟩)) rfl (by kernel_rfl) (fun _ _ _ h => h) ⟨by rfl, fun W => ?_⟩ (fun _ => hSA) ?_
        · go_simp
        simp only [Act.put, List.setIfInBounds_toArray, List.set_cons_zero, List.set_cons_succ]
        refine wpBut_imp (S2 := fun W => (Ok w W ∧ W.cell? ⟨w.heap.size, 2, none⟩ = some (.int .i64 T) ∧ W.cell? ⟨w.heap.size, 3, none⟩ = some (.int .i64 N) ∧ W.cell? ⟨w.heap.size, 4, none⟩ = some (.int .i64 lo) ∧ W.cell? ⟨w.heap.size, 5, none⟩ = some (.int .i64 hi)) ∧ W.cell? ⟨w.heap.size + 2, 3, none⟩ = some (.int .i64 0)) (fun _ h => h.1) _ _ _ _ ?_
        refine wpBut_take 7 (v := .int .i64 0) rfl (by kernel_rfl) (fun _ _ _ h => h) ⟨by rfl, fun W hW => ?_⟩ ⟨hSA, hc⟩ ?_
        · obtain ⟨-, s1⟩ := hW
          go_simp
        simp only [Act.put, List.setIfInBounds_toArray, List.set_cons_zero, List.set_cons_succ]
        refine wpBut_pure 8 (v := .pointer (some ⟨w.heap.size, 3, none⟩)) rfl (by kernel_rfl) (fun _ _ _ h => h) ⟨by rfl, fun W => ?_⟩ (fun _ => ⟨hSA, hc⟩) ?_
        · go_simp
        simp only [Act.put, List.setIfInBounds_toArray, List.set_cons_zero, List.set_cons_succ]
        have f0 := ka.frozen 3
        have c0 : (w1.alloc (.cells #[.int .i64 (-1), .int .i64 (N + 1), .int .i64 65537, .int .i64 0] 3)).drew.cell? ⟨w.heap.size, 3, none⟩ = some _ := ka.at_ rfl
        refine wpBut_seq 9 (g := 0) (by decide) (by decide) (by rfl) (by kernel_rfl) ?_
        simp only [List.drop_succ_cons, List.drop_zero]
        go_wp2_with fail
        go_meet
        have okF : Ok w ((w1.setCell ⟨w.heap.size, 3, none⟩ (.int .i64 0)).alloc (.cells #[.int .i64 (-1), .int .i64 (N + 1), .int .i64 65537, .int .i64 0] 3)).drew := Ok.drew (Ok.alloc (show Ok w (w1.setCell ⟨w.heap.size, 3, none⟩ (.int .i64 0)) from (show Below w.heap.size w w1 from ok0).setCell (Nat.le_refl _) _) (.cells #[.int .i64 (-1), .int .i64 (N + 1), .int .i64 65537, .int .i64 0] 3))
        exact ⟨s, A, n, c, l, T, 0, lo, hi, ((k0.set_ 3 _).alloc _).drew, ((k1.far (p := ⟨w.heap.size, 3, none⟩) (by simp) _).alloc _).drew, okF, Lib.hid ⟨(HRD.out.below okF).more (Below.size okF), HN3.out, HB.out.1, HB.out.2.1, HB.out.2.2.1, HB.out.2.2.2⟩, HNE.out⟩
    · go_upto_region 8 with fail
      refine wp_region_but (fun W => Ok w W ∧ W.cell? ⟨w.heap.size, 2, none⟩ = some (.int .i64 T) ∧ W.cell? ⟨w.heap.size, 3, none⟩ = some (.int .i64 N) ∧ W.cell? ⟨w.heap.size, 4, none⟩ = some (.int .i64 lo) ∧ W.cell? ⟨w.heap.size, 5, none⟩ = some (.int .i64 hi)) [13] (by kernel_rfl) ⟨ok0.drew, k0.drew.at_ rfl, k0.drew.at_ rfl, k0.drew.at_ rfl, k0.drew.at_ rfl⟩ fun hS0 => ?_
      refine wpBut_pure 0 (v := .pointer (some ⟨w.heap.size, 4, none⟩)) rfl (by kernel_rfl) (fun _ _ _ h => h) ⟨by rfl, fun W => ?_⟩ (fun _ => hS0) ?_
      · go_simp
      simp only [Act.put, List.setIfInBounds_toArray, List.set_cons_zero, List.set_cons_succ]
      refine wpBut_take 1 (v := .int .i64 lo) rfl (by kernel_rfl) (fun _ _ _ h => h) ⟨by rfl, fun W hW => ?_⟩ hS0 ?_
      · obtain ⟨s9, s2, s3, s4, s5⟩ := hW
        go_simp
      simp only [Act.put, List.setIfInBounds_toArray, List.set_cons_zero, List.set_cons_succ]
      refine wpBut_pure 2 (v := .int .i64 Y1) rfl (by kernel_rfl) (fun _ _ _ h => h) ⟨by rfl, fun W => ?_⟩ (fun _ => hS0) ?_
      · go_simp
      simp only [Act.put, List.setIfInBounds_toArray, List.set_cons_zero, List.set_cons_succ]
      refine wpBut_pure 3 (v := .pointer (some ⟨w.heap.size, 5, none⟩)) rfl (by kernel_rfl) (fun _ _ _ h => h) ⟨by rfl, fun W => ?_⟩ (fun _ => hS0) ?_
      · go_simp
      simp only [Act.put, List.setIfInBounds_toArray, List.set_cons_zero, List.set_cons_succ]
      refine wpBut_take 4 (v := .int .i64 hi) rfl (by kernel_rfl) (fun _ _ _ h => h) ⟨by rfl, fun W hW => ?_⟩ hS0 ?_
      · obtain ⟨s9, s2, s3, s4, s5⟩ := hW
        go_simp
      simp only [Act.put, List.setIfInBounds_toArray, List.set_cons_zero, List.set_cons_succ]
      refine wpBut_pure 5 (v := .int .i64 Y2) rfl (by kernel_rfl) (fun _ _ _ h => h) ⟨by rfl, fun W => ?_⟩ (fun _ => hS0) ?_
      · go_simp
      simp only [Act.put, List.setIfInBounds_toArray, List.set_cons_zero, List.set_cons_succ]
      refine wpBut_pure 6 (v := .int .i64 by_) rfl (by kernel_rfl) (fun _ _ _ h => h) ⟨by rfl, fun W => ?_⟩ (fun _ => hS0) ?_
      · go_simp
      simp only [Act.put, List.setIfInBounds_toArray, List.set_cons_zero, List.set_cons_succ]
      refine wpBut_pure 8 (v := .int .i64 by_) rfl (by kernel_rfl) (fun _ _ _ h => h) ⟨by rfl, fun W => ?_⟩ (fun _ => hS0) ?_
      · go_simp
      simp only [Act.put, List.setIfInBounds_toArray, List.set_cons_zero, List.set_cons_succ]
      refine wpBut_call 9 (v := .int .i64 r6) rfl (by kernel_rfl) (fun _ _ _ h => h) ⟨by rfl, fun W hW => ⟨12, _, ?_, HA6.out W⟩⟩ hS0 ?_
      · go_simp
      simp only [Act.put, List.setIfInBounds_toArray, List.set_cons_zero, List.set_cons_succ]
      refine wpBut_one 7 rfl (by kernel_rfl) fun K hK => ?_
      go_simp
      have ka := (k0.alloc (.cells #[.int .i64 Y1, .int .i64 Y2, .int .i64 (-1048576), .int .i64 (-1048577), .int .i64 1048577, .int .i64 by_] 3)).drew
      have kb := (k1.alloc (.cells #[.int .i64 Y1, .int .i64 Y2, .int .i64 (-1048576), .int .i64 (-1048577), .int .i64 1048577, .int .i64 by_] 3)).drew
      have oka := (ok0.alloc (.cells #[.int .i64 Y1, .int .i64 Y2, .int .i64 (-1048576), .int .i64 (-1048577), .int .i64 1048577, .int .i64 by_] 3)).drew
      have kn : Blk (w1.alloc (.cells #[.int .i64 Y1, .int .i64 Y2, .int .i64 (-1048576), .int .i64 (-1048577), .int .i64 1048577, .int .i64 by_] 3)).drew (w.heap.size + 2) 3 #[.int .i64 Y1, .int .i64 Y2, .int .i64 (-1048576), .int .i64 (-1048577), .int .i64 1048577, .int .i64 by_] := (Blk.new' hz1.symm).drew
      refine hK.out _ _ ⟨oka, ka.at_ rfl, ka.at_ rfl, ka.at_ rfl, ka.at_ rfl⟩ fun hSA => ?_
      clear hK K
      rcases (show r6 = 0 ∨ r6 = 1 ∨ r6 = 2 ∨ r6 = 3 ∨ r6 = 4 ∨ r6 = 5 by omega) with rfl | rfl | rfl | rfl | rfl | rfl
      · have hc : (w1.alloc (.cells #[.int .i64 Y1, .int .i64 Y2, .int .i64 (-1048576), .int .i64 (-1048577), .int .i64 1048577, .int .i64 by_] 3)).drew.cell? ⟨w.heap.size + 2, 0, none⟩ = some (.int .i64 Y1) := kn.at_ rfl
        refine wpBut_pure 10 (v := .pointer (some ⟨w.heap.size + 2, 0, none⟩)) rfl (by kernel_rfl) (fun _ _ _ h => h) ⟨by rfl, fun W => ?_⟩ (fun _ => hSA) ?_
        · go_simp
        simp only [Act.put, List.setIfInBounds_toArray, List.set_cons_zero, List.set_cons_succ]
        refine wpBut_imp (S2 := fun W => (Ok w W ∧ W.cell? ⟨w.heap.size, 2, none⟩ = some (.int .i64 T) ∧ W.cell? ⟨w.heap.size, 3, none⟩ = some (.int .i64 N) ∧ W.cell? ⟨w.heap.size, 4, none⟩ = some (.int .i64 lo) ∧ W.cell? ⟨w.heap.size, 5, none⟩ = some (.int .i64 hi)) ∧ W.cell? ⟨w.heap.size + 2, 0, none⟩ = some (.int .i64 Y1)) (fun _ h => h.1) _ _ _ _ ?_
        refine wpBut_take 11 (v := .int .i64 Y1) rfl (by kernel_rfl) (fun _ _ _ h => h) ⟨by rfl, fun W hW => ?_⟩ ⟨hSA, hc⟩ ?_
        · obtain ⟨-, s1⟩ := hW
          go_simp
        simp only [Act.put, List.setIfInBounds_toArray, List.set_cons_zero, List.set_cons_succ]
        refine wpBut_pure 12 (v := .pointer (some ⟨w.heap.size, 4, none⟩)) rfl (by kernel_rfl) (fun _ _ _ h => h) ⟨by rfl, fun W => ?_⟩ (fun _ => ⟨hSA, hc⟩) ?_
        · go_simp
        simp only [Act.put, List.setIfInBounds_toArray, List.set_cons_zero, List.set_cons_succ]
        have f0 := ka.frozen 4
        have c0 : (w1.alloc (.cells #[.int .i64 Y1, .int .i64 Y2, .int .i64 (-1048576), .int .i64 (-1048577), .int .i64 1048577, .int .i64 by_] 3)).drew.cell? ⟨w.heap.size, 4, none⟩ = some _ := ka.at_ rfl
        refine wpBut_seq 13 (g := 0) (by decide) (by decide) (by rfl) (by kernel_rfl) ?_
        simp only [List.drop_succ_cons, List.drop_zero]
        go_wp2_with fail
        go_meet
        have okF : Ok w ((w1.setCell ⟨w.heap.size, 4, none⟩ (.int .i64 Y1)).alloc (.cells #[.int .i64 Y1, .int .i64 Y2, .int .i64 (-1048576), .int .i64 (-1048577), .int .i64 1048577, .int .i64 by_] 3)).drew := Ok.drew (Ok.alloc (show Ok w (w1.setCell ⟨w.heap.size, 4, none⟩ (.int .i64 Y1)) from (show Below w.heap.size w w1 from ok0).setCell (Nat.le_refl _) _) (.cells #[.int .i64 Y1, .int .i64 Y2, .int .i64 (-1048576), .int .i64 (-1048577), .int .i64 1048577, .int .i64 by_] 3))
        exact ⟨s, A, n, c, l, T, N, Y1, hi, ((k0.set_ 4 _).alloc _).drew, ((k1.far (p := ⟨w.heap.size, 4, none⟩) (by simp) _).alloc _).drew, okF, Lib.hid ⟨(HRD.out.below okF).more (Below.size okF), HC.out.more (by omega), HB.out.1, HL0.out, HB.out.2.2.1, HB.out.2.2.2⟩, HNE.out⟩
      · have hc : (w1.alloc (.cells #[.int .i64 Y1, .int .i64 Y2, .int .i64 (-1048576), .int .i64 (-1048577), .int .i64 1048577, .int .i64 by_] 3)).drew.cell? ⟨w.heap.size + 2, 1, none⟩ = some (.int .i64 Y2) := kn.at_ rfl
        refine wpBut_pure 10 (v := .pointer (some ⟨w.heap.size + 2, 1, none⟩)) rfl (by kernel_rfl) (fun _ _ _ h => h) ⟨by rfl, fun W => ?_⟩ (fun _ => hSA) ?_
        · go_simp
        simp only [Act.put, List.setIfInBounds_toArray, List.set_cons_zero, List.set_cons_succ]
        refine wpBut_imp (S2 := fun W => (Ok w W ∧ W.cell? ⟨w.heap.size, 2, none⟩ = some (.int .i64 T) ∧ W.cell? ⟨w.heap.size, 3, none⟩ = some (.int .i64 N) ∧ W.cell? ⟨w.heap.size, 4, none⟩ = some (.int .i64 lo) ∧ W.cell? ⟨w.heap.size, 5, none⟩ = some (.int .i64 hi)) ∧ W.cell? ⟨w.heap.size + 2, 1, none⟩ = some (.int .i64 Y2)) (fun _ h => h.1) _ _ _ _ ?_
        refine wpBut_take 11 (v := .int .i64 Y2) rfl (by kernel_rfl) (fun _ _ _ h => h) ⟨by rfl, fun W hW => ?_⟩ ⟨hSA, hc⟩ ?_
        · obtain ⟨-, s1⟩ := hW
          go_simp
        simp only [Act.put, List.setIfInBounds_toArray, List.set_cons_zero, List.set_cons_succ]
        refine wpBut_pure 12 (v := .pointer (some ⟨w.heap.size, 4, none⟩)) rfl (by kernel_rfl) (fun _ _ _ h => h) ⟨by rfl, fun W => ?_⟩ (fun _ => ⟨hSA, hc⟩) ?_
        · go_simp
        simp only [Act.put, List.setIfInBounds_toArray, List.set_cons_zero, List.set_cons_succ]
        have f0 := ka.frozen 4
        have c0 : (w1.alloc (.cells #[.int .i64 Y1, .int .i64 Y2, .int .i64 (-1048576), .int .i64 (-1048577), .int .i64 1048577, .int .i64 by_] 3)).drew.cell? ⟨w.heap.size, 4, none⟩ = some _ := ka.at_ rfl
        refine wpBut_seq 13 (g := 0) (by decide) (by decide) (by rfl) (by kernel_rfl) ?_
        simp only [List.drop_succ_cons, List.drop_zero]
        go_wp2_with fail
        go_meet
        have okF : Ok w ((w1.setCell ⟨w.heap.size, 4, none⟩ (.int .i64 Y2)).alloc (.cells #[.int .i64 Y1, .int .i64 Y2, .int .i64 (-1048576), .int .i64 (-1048577), .int .i64 1048577, .int .i64 by_] 3)).drew := Ok.drew (Ok.alloc (show Ok w (w1.setCell ⟨w.heap.size, 4, none⟩ (.int .i64 Y2)) from (show Below w.heap.size w w1 from ok0).setCell (Nat.le_refl _) _) (.cells #[.int .i64 Y1, .int .i64 Y2, .int .i64 (-1048576), .int .i64 (-1048577), .int .i64 1048577, .int .i64 by_] 3))
        exact ⟨s, A, n, c, l, T, N, Y2, hi, ((k0.set_ 4 _).alloc _).drew, ((k1.far (p := ⟨w.heap.size, 4, none⟩) (by simp) _).alloc _).drew, okF, Lib.hid ⟨(HRD.out.below okF).more (Below.size okF), HC.out.more (by omega), HB.out.1, HL1.out, HB.out.2.2.1, HB.out.2.2.2⟩, HNE.out⟩
      · have hc : (w1.alloc (.cells #[.int .i64 Y1, .int .i64 Y2, .int .i64 (-1048576), .int .i64 (-1048577), .int .i64 1048577, .int .i64 by_] 3)).drew.cell? ⟨w.heap.size + 2, 2, none⟩ = some (.int .i64 (-1048576)) := kn.at_ rfl
        refine wpBut_pure 10 (v := .pointer (some ⟨w.heap.size + 2, 2, none⟩)) rfl (by kernel_rfl) (fun _ _ _ h => h) ⟨by rfl, fun W => ?_⟩ (fun _ => hSA) ?_
        · go_simp
        simp only [Act.put, List.setIfInBounds_toArray, List.set_cons_zero, List.set_cons_succ]
        refine wpBut_imp (S2 := fun W => (Ok w W ∧ W.cell? ⟨w.heap.size, 2, none⟩ = some (.int .i64 T) ∧ W.cell? ⟨w.heap.size, 3, none⟩ = some (.int .i64 N) ∧ W.cell? ⟨w.heap.size, 4, none⟩ = some (.int .i64 lo) ∧ W.cell? ⟨w.heap.size, 5, none⟩ = some (.int .i64 hi)) ∧ W.cell? ⟨w.heap.size + 2, 2, none⟩ = some (.int .i64 (-1048576))) (fun _ h => h.1) _ _ _ _ ?_
        refine wpBut_take 11 (v := .int .i64 (-1048576)) rfl (by kernel_rfl) (fun _ _ _ h => h) ⟨by rfl, fun W hW => ?_⟩ ⟨hSA, hc⟩ ?_
        · obtain ⟨-, s1⟩ := hW
          go_simp
        simp only [Act.put, List.setIfInBounds_toArray, List.set_cons_zero, List.set_cons_succ]
        refine wpBut_pure 12 (v := .pointer (some ⟨w.heap.size, 4, none⟩)) rfl (by kernel_rfl) (fun _ _ _ h => h) ⟨by rfl, fun W => ?_⟩ (fun _ => ⟨hSA, hc⟩) ?_
        · go_simp
        simp only [Act.put, List.setIfInBounds_toArray, List.set_cons_zero, List.set_cons_succ]
        have f0 := ka.frozen 4
        have c0 : (w1.alloc (.cells #[.int .i64 Y1, .int .i64 Y2, .int .i64 (-1048576), .int .i64 (-1048577), .int .i64 1048577, .int .i64 by_] 3)).drew.cell? ⟨w.heap.size, 4, none⟩ = some _ := ka.at_ rfl
        refine wpBut_seq 13 (g := 0) (by decide) (by decide) (by rfl) (by kernel_rfl) ?_
        simp only [List.drop_succ_cons, List.drop_zero]
        go_wp2_with fail
        go_meet
        have okF : Ok w ((w1.setCell ⟨w.heap.size, 4, none⟩ (.int .i64 (-1048576))).alloc (.cells #[.int .i64 Y1, .int .i64 Y2, .int .i64 (-1048576), .int .i64 (-1048577), .int .i64 1048577, .int .i64 by_] 3)).drew := Ok.drew (Ok.alloc (show Ok w (w1.setCell ⟨w.heap.size, 4, none⟩ (.int .i64 (-1048576))) from (show Below w.heap.size w w1 from ok0).setCell (Nat.le_refl _) _) (.cells #[.int .i64 Y1, .int .i64 Y2, .int .i64 (-1048576), .int .i64 (-1048577), .int .i64 1048577, .int .i64 by_] 3))
        exact ⟨s, A, n, c, l, T, N, (-1048576), hi, ((k0.set_ 4 _).alloc _).drew, ((k1.far (p := ⟨w.heap.size, 4, none⟩) (by simp) _).alloc _).drew, okF, Lib.hid ⟨(HRD.out.below okF).more (Below.size okF), HC.out.more (by omega), HB.out.1, HL2.out, HB.out.2.2.1, HB.out.2.2.2⟩, HNE.out⟩
      · have hc : (w1.alloc (.cells #[.int .i64 Y1, .int .i64 Y2, .int .i64 (-1048576), .int .i64 (-1048577), .int .i64 1048577, .int .i64 by_] 3)).drew.cell? ⟨w.heap.size + 2, 3, none⟩ = some (.int .i64 (-1048577)) := kn.at_ rfl
        refine wpBut_pure 10 (v := .pointer (some ⟨w.heap.size + 2, 3, none⟩)) rfl (by kernel_rfl) (fun _ _ _ h => h) ⟨by rfl, fun W => ?_⟩ (fun _ => hSA) ?_
        · go_simp
        simp only [Act.put, List.setIfInBounds_toArray, List.set_cons_zero, List.set_cons_succ]
        refine wpBut_imp (S2 := fun W => (Ok w W ∧ W.cell? ⟨w.heap.size, 2, none⟩ = some (.int .i64 T) ∧ W.cell? ⟨w.heap.size, 3, none⟩ = some (.int .i64 N) ∧ W.cell? ⟨w.heap.size, 4, none⟩ = some (.int .i64 lo) ∧ W.cell? ⟨w.heap.size, 5, none⟩ = some (.int .i64 hi)) ∧ W.cell? ⟨w.heap.size + 2, 3, none⟩ = some (.int .i64 (-1048577))) (fun _ h => h.1) _ _ _ _ ?_
        refine wpBut_take 11 (v := .int .i64 (-1048577)) rfl (by kernel_rfl) (fun _ _ _ h => h) ⟨by rfl, fun W hW => ?_⟩ ⟨hSA, hc⟩ ?_
        · obtain ⟨-, s1⟩ := hW
          go_simp
        simp only [Act.put, List.setIfInBounds_toArray, List.set_cons_zero, List.set_cons_succ]
        refine wpBut_pure 12 (v := .pointer (some ⟨w.heap.size, 4, none⟩)) rfl (by kernel_rfl) (fun _ _ _ h => h) ⟨by rfl, fun W => ?_⟩ (fun _ => ⟨hSA, hc⟩) ?_
        · go_simp
        simp only [Act.put, List.setIfInBounds_toArray, List.set_cons_zero, List.set_cons_succ]
        have f0 := ka.frozen 4
        have c0 : (w1.alloc (.cells #[.int .i64 Y1, .int .i64 Y2, .int .i64 (-1048576), .int .i64 (-1048577), .int .i64 1048577, .int .i64 by_] 3)).drew.cell? ⟨w.heap.size, 4, none⟩ = some _ := ka.at_ rfl
        refine wpBut_seq 13 (g := 0) (by decide) (by decide) (by rfl) (by kernel_rfl) ?_
        simp only [List.drop_succ_cons, List.drop_zero]
        go_wp2_with fail
        go_meet
        have okF : Ok w ((w1.setCell ⟨w.heap.size, 4, none⟩ (.int .i64 (-1048577))).alloc (.cells #[.int .i64 Y1, .int .i64 Y2, .int .i64 (-1048576), .int .i64 (-1048577), .int .i64 1048577, .int .i64 by_] 3)).drew := Ok.drew (Ok.alloc (show Ok w (w1.setCell ⟨w.heap.size, 4, none⟩ (.int .i64 (-1048577))) from (show Below w.heap.size w w1 from ok0).setCell (Nat.le_refl _) _) (.cells #[.int .i64 Y1, .int .i64 Y2, .int .i64 (-1048576), .int .i64 (-1048577), .int .i64 1048577, .int .i64 by_] 3))
        exact ⟨s, A, n, c, l, T, N, (-1048577), hi, ((k0.set_ 4 _).alloc _).drew, ((k1.far (p := ⟨w.heap.size, 4, none⟩) (by simp) _).alloc _).drew, okF, Lib.hid ⟨(HRD.out.below okF).more (Below.size okF), HC.out.more (by omega), HB.out.1, HL3.out, HB.out.2.2.1, HB.out.2.2.2⟩, HNE.out⟩
      · have hc : (w1.alloc (.cells #[.int .i64 Y1, .int .i64 Y2, .int .i64 (-1048576), .int .i64 (-1048577), .int .i64 1048577, .int .i64 by_] 3)).drew.cell? ⟨w.heap.size + 2, 4, none⟩ = some (.int .i64 1048577) := kn.at_ rfl
        refine wpBut_pure 10 (v := .pointer (some ⟨w.heap.size + 2, 4, none⟩)) rfl (by kernel_rfl) (fun _ _ _ h => h) ⟨by rfl, fun W => ?_⟩ (fun _ => hSA) ?_
        · go_simp
        simp only [Act.put, List.setIfInBounds_toArray, List.set_cons_zero, List.set_cons_succ]
        refine wpBut_imp (S2 := fun W => (Ok w W ∧ W.cell? ⟨w.heap.size, 2, none⟩ = some (.int .i64 T) ∧ W.cell? ⟨w.heap.size, 3, none⟩ = some (.int .i64 N) ∧ W.cell? ⟨w.heap.size, 4, none⟩ = some (.int .i64 lo) ∧ W.cell? ⟨w.heap.size, 5, none⟩ = some (.int .i64 hi)) ∧ W.cell? ⟨w.heap.size + 2, 4, none⟩ = some (.int .i64 1048577)) (fun _ h => h.1) _ _ _ _ ?_
        refine wpBut_take 11 (v := .int .i64 1048577) rfl (by kernel_rfl) (fun _ _ _ h => h) ⟨by rfl, fun W hW => ?_⟩ ⟨hSA, hc⟩ ?_
        · obtain ⟨-, s1⟩ := hW
          go_simp
        simp only [Act.put, List.setIfInBounds_toArray, List.set_cons_zero, List.set_cons_succ]
        refine wpBut_pure 12 (v := .pointer (some ⟨w.heap.size, 4, none⟩)) rfl (by kernel_rfl) (fun _ _ _ h => h) ⟨by rfl, fun W => ?_⟩ (fun _ => ⟨hSA, hc⟩) ?_
        · go_simp
        simp only [Act.put, List.setIfInBounds_toArray, List.set_cons_zero, List.set_cons_succ]
        have f0 := ka.frozen 4
        have c0 : (w1.alloc (.cells #[.int .i64 Y1, .int .i64 Y2, .int .i64 (-1048576), .int .i64 (-1048577), .int .i64 1048577, .int .i64 by_] 3)).drew.cell? ⟨w.heap.size, 4, none⟩ = some _ := ka.at_ rfl
        refine wpBut_seq 13 (g := 0) (by decide) (by decide) (by rfl) (by kernel_rfl) ?_
        simp only [List.drop_succ_cons, List.drop_zero]
        go_wp2_with fail
        go_meet
        have okF : Ok w ((w1.setCell ⟨w.heap.size, 4, none⟩ (.int .i64 1048577)).alloc (.cells #[.int .i64 Y1, .int .i64 Y2, .int .i64 (-1048576), .int .i64 (-1048577), .int .i64 1048577, .int .i64 by_] 3)).drew := Ok.drew (Ok.alloc (show Ok w (w1.setCell ⟨w.heap.size, 4, none⟩ (.int .i64 1048577)) from (show Below w.heap.size w w1 from ok0).setCell (Nat.le_refl _) _) (.cells #[.int .i64 Y1, .int .i64 Y2, .int .i64 (-1048576), .int .i64 (-1048577), .int .i64 1048577, .int .i64 by_] 3))
        exact ⟨s, A, n, c, l, T, N, 1048577, hi, ((k0.set_ 4 _).alloc _).drew, ((k1.far (p := ⟨w.heap.size, 4, none⟩) (by simp) _).alloc _).drew, okF, Lib.hid ⟨(HRD.out.below okF).more (Below.size okF), HC.out.more (by omega), HB.out.1, HL4.out, HB.out.2.2.1, HB.out.2.2.2⟩, HNE.out⟩
      · have hc : (w1.alloc (.cells #[.int .i64 Y1, .int .i64 Y2, .int .i64 (-1048576), .int .i64 (-1048577), .int .i64 1048577, .int .i64 by_] 3)).drew.cell? ⟨w.heap.size + 2, 5, none⟩ = some (.int .i64 by_) := kn.at_ rfl
        refine wpBut_pure 10 (v := .pointer (some ⟨w.heap.size + 2, 5, none⟩)) rfl (by kernel_rfl) (fun _ _ _ h => h) ⟨by rfl, fun W => ?_⟩ (fun _ => hSA) ?_
        · go_simp
        simp only [Act.put, List.setIfInBounds_toArray, List.set_cons_zero, List.set_cons_succ]
        refine wpBut_imp (S2 := fun W => (Ok w W ∧ W.cell? ⟨w.heap.size, 2, none⟩ = some (.int .i64 T) ∧ W.cell? ⟨w.heap.size, 3, none⟩ = some (.int .i64 N) ∧ W.cell? ⟨w.heap.size, 4, none⟩ = some (.int .i64 lo) ∧ W.cell? ⟨w.heap.size, 5, none⟩ = some (.int .i64 hi)) ∧ W.cell? ⟨w.heap.size + 2, 5, none⟩ = some (.int .i64 by_)) (fun _ h => h.1) _ _ _ _ ?_
        refine wpBut_take 11 (v := .int .i64 by_) rfl (by kernel_rfl) (fun _ _ _ h => h) ⟨by rfl, fun W hW => ?_⟩ ⟨hSA, hc⟩ ?_
        · obtain ⟨-, s1⟩ := hW
          go_simp
        simp only [Act.put, List.setIfInBounds_toArray, List.set_cons_zero, List.set_cons_succ]
        refine wpBut_pure 12 (v := .pointer (some ⟨w.heap.size, 4, none⟩)) rfl (by kernel_rfl) (fun _ _ _ h => h) ⟨by rfl, fun W => ?_⟩ (fun _ => ⟨hSA, hc⟩) ?_
        · go_simp
        simp only [Act.put, List.setIfInBounds_toArray, List.set_cons_zero, List.set_cons_succ]
        have f0 := ka.frozen 4
        have c0 : (w1.alloc (.cells #[.int .i64 Y1, .int .i64 Y2, .int .i64 (-1048576), .int .i64 (-1048577), .int .i64 1048577, .int .i64 by_] 3)).drew.cell? ⟨w.heap.size, 4, none⟩ = some _ := ka.at_ rfl
        refine wpBut_seq 13 (g := 0) (by decide) (by decide) (by rfl) (by kernel_rfl) ?_
        simp only [List.drop_succ_cons, List.drop_zero]
        go_wp2_with fail
        go_meet
        have okF : Ok w ((w1.setCell ⟨w.heap.size, 4, none⟩ (.int .i64 by_)).alloc (.cells #[.int .i64 Y1, .int .i64 Y2, .int .i64 (-1048576), .int .i64 (-1048577), .int .i64 1048577, .int .i64 by_] 3)).drew := Ok.drew (Ok.alloc (show Ok w (w1.setCell ⟨w.heap.size, 4, none⟩ (.int .i64 by_)) from (show Below w.heap.size w w1 from ok0).setCell (Nat.le_refl _) _) (.cells #[.int .i64 Y1, .int .i64 Y2, .int .i64 (-1048576), .int .i64 (-1048577), .int .i64 1048577, .int .i64 by_] 3))
        exact ⟨s, A, n, c, l, T, N, by_, hi, ((k0.set_ 4 _).alloc _).drew, ((k1.far (p := ⟨w.heap.size, 4, none⟩) (by simp) _).alloc _).drew, okF, Lib.hid ⟨(HRD.out.below okF).more (Below.size okF), HC.out.more (by omega), HB.out.1, HL5.out, HB.out.2.2.1, HB.out.2.2.2⟩, HNE.out⟩
    · go_upto_region 10 with fail
      refine wp_region_but (fun W => Ok w W ∧ W.cell? ⟨w.heap.size, 2, none⟩ = some (.int .i64 T) ∧ W.cell? ⟨w.heap.size, 3, none⟩ = some (.int .i64 N) ∧ W.cell? ⟨w.heap.size, 4, none⟩ = some (.int .i64 lo) ∧ W.cell? ⟨w.heap.size, 5, none⟩ = some (.int .i64 hi)) [13] (by kernel_rfl) ⟨ok0.drew, k0.drew.at_ rfl, k0.drew.at_ rfl, k0.drew.at_ rfl, k0.drew.at_ rfl⟩ fun hS0 => ?_
      refine wpBut_pure 0 (v := .pointer (some ⟨w.heap.size, 5, none⟩)) rfl (by kernel_rfl) (fun _ _ _ h => h) ⟨by rfl, fun W => ?_⟩ (fun _ => hS0) ?_
      · go_simp
      simp only [Act.put, List.setIfInBounds_toArray, List.set_cons_zero, List.set_cons_succ]
      refine wpBut_take 1 (v := .int .i64 hi) rfl (by kernel_rfl) (fun _ _ _ h => h) ⟨by rfl, fun W hW => ?_⟩ hS0 ?_
      · obtain ⟨s9, s2, s3, s4, s5⟩ := hW
        go_simp
      simp only [Act.put, List.setIfInBounds_toArray, List.set_cons_zero, List.set_cons_succ]
      refine wpBut_pure 2 (v := .int .i64 Y2) rfl (by kernel_rfl) (fun _ _ _ h => h) ⟨by rfl, fun W => ?_⟩ (fun _ => hS0) ?_
      · go_simp
      simp only [Act.put, List.setIfInBounds_toArray, List.set_cons_zero, List.set_cons_succ]
      refine wpBut_pure 3 (v := .pointer (some ⟨w.heap.size, 4, none⟩)) rfl (by kernel_rfl) (fun _ _ _ h => h) ⟨by rfl, fun W => ?_⟩ (fun _ => hS0) ?_
      · go_simp
      simp only [Act.put, List.setIfInBounds_toArray, List.set_cons_zero, List.set_cons_succ]
      refine wpBut_take 4 (v := .int .i64 lo) rfl (by kernel_rfl) (fun _ _ _ h => h) ⟨by rfl, fun W hW => ?_⟩ hS0 ?_
      · obtain ⟨s9, s2, s3, s4, s5⟩ := hW
        go_simp
      simp only [Act.put, List.setIfInBounds_toArray, List.set_cons_zero, List.set_cons_succ]
      refine wpBut_pure 5 (v := .int .i64 Y1) rfl (by kernel_rfl) (fun _ _ _ h => h) ⟨by rfl, fun W => ?_⟩ (fun _ => hS0) ?_
      · go_simp
      simp only [Act.put, List.setIfInBounds_toArray, List.set_cons_zero, List.set_cons_succ]
      refine wpBut_pure 6 (v := .int .i64 by_) rfl (by kernel_rfl) (fun _ _ _ h => h) ⟨by rfl, fun W => ?_⟩ (fun _ => hS0) ?_
      · go_simp
      simp only [Act.put, List.setIfInBounds_toArray, List.set_cons_zero, List.set_cons_succ]
      refine wpBut_pure 8 (v := .int .i64 by_) rfl (by kernel_rfl) (fun _ _ _ h => h) ⟨by rfl, fun W => ?_⟩ (fun _ => hS0) ?_
      · go_simp
      simp only [Act.put, List.setIfInBounds_toArray, List.set_cons_zero, List.set_cons_succ]
      refine wpBut_call 9 (v := .int .i64 r6) rfl (by kernel_rfl) (fun _ _ _ h => h) ⟨by rfl, fun W hW => ⟨12, _, ?_, HA6.out W⟩⟩ hS0 ?_
      · go_simp
      simp only [Act.put, List.setIfInBounds_toArray, List.set_cons_zero, List.set_cons_succ]
      refine wpBut_one 7 rfl (by kernel_rfl) fun K hK => ?_
      go_simp
      have ka := (k0.alloc (.cells #[.int .i64 Y2, .int .i64 Y1, .int .i64 1048576, .int .i64 1048577, .int .i64 (-1048577), .int .i64 by_] 3)).drew
      have kb := (k1.alloc (.cells #[.int .i64 Y2, .int .i64 Y1, .int .i64 1048576, .int .i64 1048577, .int .i64 (-1048577), .int .i64 by_] 3)).drew
      have oka := (ok0.alloc (.cells #[.int .i64 Y2, .int .i64 Y1, .int .i64 1048576, .int .i64 1048577, .int .i64 (-1048577), .int .i64 by_] 3)).drew
      have kn : Blk (w1.alloc (.cells #[.int .i64 Y2, .int .i64 Y1, .int .i64 1048576, .int .i64 1048577, .int .i64 (-1048577), .int .i64 by_] 3)).drew (w.heap.size + 2) 3 #[.int .i64 Y2, .int .i64 Y1, .int .i64 1048576, .int .i64 1048577, .int .i64 (-1048577), .int .i64 by_] := (Blk.new' hz1.symm).drew
      refine hK.out _ _ ⟨oka, ka.at_ rfl, ka.at_ rfl, ka.at_ rfl, ka.at_ rfl⟩ fun hSA => ?_
      clear hK K
      rcases (show r6 = 0 ∨ r6 = 1 ∨ r6 = 2 ∨ r6 = 3 ∨ r6 = 4 ∨ r6 = 5 by omega) with rfl | rfl | rfl | rfl | rfl | rfl
      · have hc : (w1.alloc (.cells #[.int .i64 Y2, .int .i64 Y1, .int .i64 1048576, .int .i64 1048577, .int .i64 (-1048577), .int .i64 by_] 3)).drew.cell? ⟨w.heap.size + 2, 0, none⟩ = some (.int .i64 Y2) := kn.at_ rfl
        refine wpBut_pure 10 (v := .pointer (some ⟨w.heap.size + 2, 0, none⟩)) rfl (by kernel_rfl) (fun _ _ _ h => h) ⟨by rfl, fun W => ?_⟩ (fun _ => hSA) ?_
        · go_simp
        simp only [Act.put, List.setIfInBounds_toArray, List.set_cons_zero, List.set_cons_succ]
        refine wpBut_imp (S2 := fun W => (Ok w W ∧ W.cell? ⟨w.heap.size, 2, none⟩ = some (.int .i64 T) ∧ W.cell? ⟨w.heap.size, 3, none⟩ = some (.int .i64 N) ∧ W.cell? ⟨w.heap.size, 4, none⟩ = some (.int .i64 lo) ∧ W.cell? ⟨w.heap.size, 5, none⟩ = some (.int .i64 hi)) ∧ W.cell? ⟨w.heap.size + 2, 0, none⟩ = some (.int .i64 Y2)) (fun _ h => h.1) _ _ _ _ ?_
        refine wpBut_take 11 (v := .int .i64 Y2) rfl (by kernel_rfl) (fun _ _ _ h => h) ⟨by rfl, fun W hW => ?_⟩ ⟨hSA, hc⟩ ?_
        · obtain ⟨-, s1⟩ := hW
          go_simp
        simp only [Act.put, List.setIfInBounds_toArray, List.set_cons_zero, List.set_cons_succ]
        refine wpBut_pure 12 (v := .pointer (some ⟨w.heap.size, 5, none⟩)) rfl (by kernel_rfl) (fun _ _ _ h => h) ⟨by rfl, fun W => ?_⟩ (fun _ => ⟨hSA, hc⟩) ?_
        · go_simp
        simp only [Act.put, List.setIfInBounds_toArray, List.set_cons_zero, List.set_cons_succ]
        have f0 := ka.frozen 5
        have c0 : (w1.alloc (.cells #[.int .i64 Y2, .int .i64 Y1, .int .i64 1048576, .int .i64 1048577, .int .i64 (-1048577), .int .i64 by_] 3)).drew.cell? ⟨w.heap.size, 5, none⟩ = some _ := ka.at_ rfl
        refine wpBut_seq 13 (g := 0) (by decide) (by decide) (by rfl) (by kernel_rfl) ?_
        simp only [List.drop_succ_cons, List.drop_zero]
        go_wp2_with fail
        go_meet
        have okF : Ok w ((w1.setCell ⟨w.heap.size, 5, none⟩ (.int .i64 Y2)).alloc (.cells #[.int .i64 Y2, .int .i64 Y1, .int .i64 1048576, .int .i64 1048577, .int .i64 (-1048577), .int .i64 by_] 3)).drew := Ok.drew (Ok.alloc (show Ok w (w1.setCell ⟨w.heap.size, 5, none⟩ (.int .i64 Y2)) from (show Below w.heap.size w w1 from ok0).setCell (Nat.le_refl _) _) (.cells #[.int .i64 Y2, .int .i64 Y1, .int .i64 1048576, .int .i64 1048577, .int .i64 (-1048577), .int .i64 by_] 3))
        exact ⟨s, A, n, c, l, T, N, lo, Y2, ((k0.set_ 5 _).alloc _).drew, ((k1.far (p := ⟨w.heap.size, 5, none⟩) (by simp) _).alloc _).drew, okF, Lib.hid ⟨(HRD.out.below okF).more (Below.size okF), HC.out.more (by omega), HB.out.1, HB.out.2.1, HH0.out, HB.out.2.2.2⟩, HNE.out⟩
      · have hc : (w1.alloc (.cells #[.int .i64 Y2, .int .i64 Y1, .int .i64 1048576, .int .i64 1048577, .int .i64 (-1048577), .int .i64 by_] 3)).drew.cell? ⟨w.heap.size + 2, 1, none⟩ = some (.int .i64 Y1) := kn.at_ rfl
        refine wpBut_pure 10 (v := .pointer (some ⟨w.heap.size + 2, 1, none⟩)) rfl (by kernel_rfl) (fun _ _ _ h => h) ⟨by rfl, fun W => ?_⟩ (fun _ => hSA) ?_
        · go_simp
        simp only [Act.put, List.setIfInBounds_toArray, List.set_cons_zero, List.set_cons_succ]
        refine wpBut_imp (S2 := fun W => (Ok w W ∧ W.cell? ⟨w.heap.size, 2, none⟩ = some (.int .i64 T) ∧ W.cell? ⟨w.heap.size, 3, none⟩ = some (.int .i64 N) ∧ W.cell? ⟨w.heap.size, 4, none⟩ = some (.int .i64 lo) ∧ W.cell? ⟨w.heap.size, 5, none⟩ = some (.int .i64 hi)) ∧ W.cell? ⟨w.heap.size + 2, 1, none⟩ = some (.int .i64 Y1)) (fun _ h => h.1) _ _ _ _ ?_
        refine wpBut_take 11 (v := .int .i64 Y1) rfl (by kernel_rfl) (fun _ _ _ h => h) ⟨by rfl, fun W hW => ?_⟩ ⟨hSA, hc⟩ ?_
        · obtain ⟨-, s1⟩ := hW
          go_simp
        simp only [Act.put, List.setIfInBounds_toArray, List.set_cons_zero, List.set_cons_succ]
        refine wpBut_pure 12 (v := .pointer (some ⟨w.heap.size, 5, none⟩)) rfl (by kernel_rfl) (fun _ _ _ h => h) ⟨by rfl, fun W => ?_⟩ (fun _ => ⟨hSA, hc⟩) ?_
        · go_simp
        simp only [Act.put, List.setIfInBounds_toArray, List.set_cons_zero, List.set_cons_succ]
        have f0 := ka.frozen 5
        have c0 : (w1.alloc (.cells #[.int .i64 Y2, .int .i64 Y1, .int .i64 1048576, .int .i64 1048577, .int .i64 (-1048577), .int .i64 by_] 3)).drew.cell? ⟨w.heap.size, 5, none⟩ = some _ := ka.at_ rfl
        refine wpBut_seq 13 (g := 0) (by decide) (by decide) (by rfl) (by kernel_rfl) ?_
        simp only [List.drop_succ_cons, List.drop_zero]
        go_wp2_with fail
        go_meet
        have okF : Ok w ((w1.setCell ⟨w.heap.size, 5, none⟩ (.int .i64 Y1)).alloc (.cells #[.int .i64 Y2, .int .i64 Y1, .int .i64 1048576, .int .i64 1048577, .int .i64 (-1048577), .int .i64 by_] 3)).drew := Ok.drew (Ok.alloc (show Ok w (w1.setCell ⟨w.heap.size, 5, none⟩ (.int .i64 Y1)) from (show Below w.heap.size w w1 from ok0).setCell (Nat.le_refl _) _) (.cells #[.int .i64 Y2, .int .i64 Y1, .int .i64 1048576, .int .i64 1048577, .int .i64 (-1048577), .int .i64 by_] 3))
        exact ⟨s, A, n, c, l, T, N, lo, Y1, ((k0.set_ 5 _).alloc _).drew, ((k1.far (p := ⟨w.heap.size, 5, none⟩) (by simp) _).alloc _).drew, okF, Lib.hid ⟨(HRD.out.below okF).more (Below.size okF), HC.out.more (by omega), HB.out.1, HB.out.2.1, HH1.out, HB.out.2.2.2⟩, HNE.out⟩
      · have hc : (w1.alloc (.cells #[.int .i64 Y2, .int .i64 Y1, .int .i64 1048576, .int .i64 1048577, .int .i64 (-1048577), .int .i64 by_] 3)).drew.cell? ⟨w.heap.size + 2, 2, none⟩ = some (.int .i64 1048576) := kn.at_ rfl
        refine wpBut_pure 10 (v := .pointer (some ⟨w.heap.size + 2, 2, none⟩)) rfl (by kernel_rfl) (fun _ _ _ h => h) ⟨by rfl, fun W => ?_⟩ (fun _ => hSA) ?_
        · go_simp
        simp only [Act.put, List.setIfInBounds_toArray, List.set_cons_zero, List.set_cons_succ]
        refine wpBut_imp (S2 := fun W => (Ok w W ∧ W.cell? ⟨w.heap.size, 2, none⟩ = some (.int .i64 T) ∧ W.cell? ⟨w.heap.size, 3, none⟩ = some (.int .i64 N) ∧ W.cell? ⟨w.heap.size, 4, none⟩ = some (.int .i64 lo) ∧ W.cell? ⟨w.heap.size, 5, none⟩ = some (.int .i64 hi)) ∧ W.cell? ⟨w.heap.size + 2, 2, none⟩ = some (.int .i64 1048576)) (fun _ h => h.1) _ _ _ _ ?_
        refine wpBut_take 11 (v := .int .i64 1048576) rfl (by kernel_rfl) (fun _ _ _ h => h) ⟨by rfl, fun W hW => ?_⟩ ⟨hSA, hc⟩ ?_
        · obtain ⟨-, s1⟩ := hW
          go_simp
        simp only [Act.put, List.setIfInBounds_toArray, List.set_cons_zero, List.set_cons_succ]
        refine wpBut_pure 12 (v := .pointer (some ⟨w.heap.size, 5, none⟩)) rfl (by kernel_rfl) (fun _ _ _ h => h) ⟨by rfl, fun W => ?_⟩ (fun _ => ⟨hSA, hc⟩) ?_
        · go_simp
        simp only [Act.put, List.setIfInBounds_toArray, List.set_cons_zero, List.set_cons_succ]
        have f0 := ka.frozen 5
        have c0 : (w1.alloc (.cells #[.int .i64 Y2, .int .i64 Y1, .int .i64 1048576, .int .i64 1048577, .int .i64 (-1048577), .int .i64 by_] 3)).drew.cell? ⟨w.heap.size, 5, none⟩ = some _ := ka.at_ rfl
        refine wpBut_seq 13 (g := 0) (by decide) (by decide) (by rfl) (by kernel_rfl) ?_
        simp only [List.drop_succ_cons, List.drop_zero]
        go_wp2_with fail
        go_meet
        have okF : Ok w ((w1.setCell ⟨w.heap.size, 5, none⟩ (.int .i64 1048576)).alloc (.cells #[.int .i64 Y2, .int .i64 Y1, .int .i64 1048576, .int .i64 1048577, .int .i64 (-1048577), .int .i64 by_] 3)).drew := Ok.drew (Ok.alloc (show Ok w (w1.setCell ⟨w.heap.size, 5, none⟩ (.int .i64 1048576)) from (show Below w.heap.size w w1 from ok0).setCell (Nat.le_refl _) _) (.cells #[.int .i64 Y2, .int .i64 Y1, .int .i64 1048576, .int .i64 1048577, .int .i64 (-1048577), .int .i64 by_] 3))
        exact ⟨s, A, n, c, l, T, N, lo, 1048576, ((k0.set_ 5 _).alloc _).drew, ((k1.far (p := ⟨w.heap.size, 5, none⟩) (by simp) _).alloc _).drew, okF, Lib.hid ⟨(HRD.out.below okF).more (Below.size okF), HC.out.more (by omega), HB.out.1, HB.out.2.1, HH2.out, HB.out.2.2.2⟩, HNE.out⟩
      · have hc : (w1.alloc (.cells #[.int .i64 Y2, .int .i64 Y1, .int .i64 1048576, .int .i64 1048577, .int .i64 (-1048577), .int .i64 by_] 3)).drew.cell? ⟨w.heap.size + 2, 3, none⟩ = some (.int .i64 1048577) := kn.at_ rfl
        refine wpBut_pure 10 (v := .pointer (some ⟨w.heap.size + 2, 3, none⟩)) rfl (by kernel_rfl) (fun _ _ _ h => h) ⟨by rfl, fun W => ?_⟩ (fun _ => hSA) ?_
        · go_simp
        simp only [Act.put, List.setIfInBounds_toArray, List.set_cons_zero, List.set_cons_succ]
        refine wpBut_imp (S2 := fun W => (Ok w W ∧ W.cell? ⟨w.heap.size, 2, none⟩ = some (.int .i64 T) ∧ W.cell? ⟨w.heap.size, 3, none⟩ = some (.int .i64 N) ∧ W.cell? ⟨w.heap.size, 4, none⟩ = some (.int .i64 lo) ∧ W.cell? ⟨w.heap.size, 5, none⟩ = some (.int .i64 hi)) ∧ W.cell? ⟨w.heap.size + 2, 3, none⟩ = some (.int .i64 1048577)) (fun _ h => h.1) _ _ _ _ ?_
        refine wpBut_take 11 (v := .int .i64 1048577) rfl (by kernel_rfl) (fun _ _ _ h => h) ⟨by rfl, fun W hW => ?_⟩ ⟨hSA, hc⟩ ?_
        · obtain ⟨-, s1⟩ := hW
          go_simp
        simp only [Act.put, List.setIfInBounds_toArray, List.set_cons_zero, List.set_cons_succ]
        refine wpBut_pure 12 (v := .pointer (some ⟨w.heap.size, 5, none⟩)) rfl (by kernel_rfl) (fun _ _ _ h => h) ⟨by rfl, fun W => ?_⟩ (fun _ => ⟨hSA, hc⟩) ?_
        · go_simp
        simp only [Act.put, List.setIfInBounds_toArray, List.set_cons_zero, List.set_cons_succ]
        have f0 := ka.frozen 5
        have c0 : (w1.alloc (.cells #[.int .i64 Y2, .int .i64 Y1, .int .i64 1048576, .int .i64 1048577, .int .i64 (-1048577), .int .i64 by_] 3)).drew.cell? ⟨w.heap.size, 5, none⟩ = some _ := ka.at_ rfl
        refine wpBut_seq 13 (g := 0) (by decide) (by decide) (by rfl) (by kernel_rfl) ?_
        simp only [List.drop_succ_cons, List.drop_zero]
        go_wp2_with fail
        go_meet
        have okF : Ok w ((w1.setCell ⟨w.heap.size, 5, none⟩ (.int .i64 1048577)).alloc (.cells #[.int .i64 Y2, .int .i64 Y1, .int .i64 1048576, .int .i64 1048577, .int .i64 (-1048577), .int .i64 by_] 3)).drew := Ok.drew (Ok.alloc (show Ok w (w1.setCell ⟨w.heap.size, 5, none⟩ (.int .i64 1048577)) from (show Below w.heap.size w w1 from ok0).setCell (Nat.le_refl _) _) (.cells #[.int .i64 Y2, .int .i64 Y1, .int .i64 1048576, .int .i64 1048577, .int .i64 (-1048577), .int .i64 by_] 3))
        exact ⟨s, A, n, c, l, T, N, lo, 1048577, ((k0.set_ 5 _).alloc _).drew, ((k1.far (p := ⟨w.heap.size, 5, none⟩) (by simp) _).alloc _).drew, okF, Lib.hid ⟨(HRD.out.below okF).more (Below.size okF), HC.out.more (by omega), HB.out.1, HB.out.2.1, HH3.out, HB.out.2.2.2⟩, HNE.out⟩
      · have hc : (w1.alloc (.cells #[.int .i64 Y2, .int .i64 Y1, .int .i64 1048576, .int .i64 1048577, .int .i64 (-1048577), .int .i64 by_] 3)).drew.cell? ⟨w.heap.size + 2, 4, none⟩ = some (.int .i64 (-1048577)) := kn.at_ rfl
        refine wpBut_pure 10 (v := .pointer (some ⟨w.heap.size + 2, 4, none⟩)) rfl (by kernel_rfl) (fun _ _ _ h => h) ⟨by rfl, fun W => ?_⟩ (fun _ => hSA) ?_
        · go_simp
        simp only [Act.put, List.setIfInBounds_toArray, List.set_cons_zero, List.set_cons_succ]
        refine wpBut_imp (S2 := fun W => (Ok w W ∧ W.cell? ⟨w.heap.size, 2, none⟩ = some (.int .i64 T) ∧ W.cell? ⟨w.heap.size, 3, none⟩ = some (.int .i64 N) ∧ W.cell? ⟨w.heap.size, 4, none⟩ = some (.int .i64 lo) ∧ W.cell? ⟨w.heap.size, 5, none⟩ = some (.int .i64 hi)) ∧ W.cell? ⟨w.heap.size + 2, 4, none⟩ = some (.int .i64 (-1048577))) (fun _ h => h.1) _ _ _ _ ?_
        refine wpBut_take 11 (v := .int .i64 (-1048577)) rfl (by kernel_rfl) (fun _ _ _ h => h) ⟨by rfl, fun W hW => ?_⟩ ⟨hSA, hc⟩ ?_
        · obtain ⟨-, s1⟩ := hW
          go_simp
        simp only [Act.put, List.setIfInBounds_toArray, List.set_cons_zero, List.set_cons_succ]
        refine wpBut_pure 12 (v := .pointer (some ⟨w.heap.size, 5, none⟩)) rfl (by kernel_rfl) (fun _ _ _ h => h) ⟨by rfl, fun W => ?_⟩ (fun _ => ⟨hSA, hc⟩) ?_
        · go_simp
        simp only [Act.put, List.setIfInBounds_toArray, List.set_cons_zero, List.set_cons_succ]
        have f0 := ka.frozen 5
        have c0 : (w1.alloc (.cells #[.int .i64 Y2, .int .i64 Y1, .int .i64 1048576, .int .i64 1048577, .int .i64 (-1048577), .int .i64 by_] 3)).drew.cell? ⟨w.heap.size, 5, none⟩ = some _ := ka.at_ rfl
        refine wpBut_seq 13 (g := 0) (by decide) (by decide) (by rfl) (by kernel_rfl) ?_
        simp only [List.drop_succ_cons, List.drop_zero]
        go_wp2_with fail
        go_meet
        have okF : Ok w ((w1.setCell ⟨w.heap.size, 5, none⟩ (.int .i64 (-1048577))).alloc (.cells #[.int .i64 Y2, .int .i64 Y1, .int .i64 1048576, .int .i64 1048577, .int .i64 (-1048577), .int .i64 by_] 3)).drew := Ok.drew (Ok.alloc (show Ok w (w1.setCell ⟨w.heap.size, 5, none⟩ (.int .i64 (-1048577))) from (show Below w.heap.size w w1 from ok0).setCell (Nat.le_refl _) _) (.cells #[.int .i64 Y2, .int .i64 Y1, .int .i64 1048576, .int .i64 1048577, .int .i64 (-1048577), .int .i64 by_] 3))
        exact ⟨s, A, n, c, l, T, N, lo, (-1048577), ((k0.set_ 5 _).alloc _).drew, ((k1.far (p := ⟨w.heap.size, 5, none⟩) (by simp) _).alloc _).drew, okF, Lib.hid ⟨(HRD.out.below okF).more (Below.size okF), HC.out.more (by omega), HB.out.1, HB.out.2.1, HH4.out, HB.out.2.2.2⟩, HNE.out⟩
      · have hc : (w1.alloc (.cells #[.int .i64 Y2, .int .i64 Y1, .int .i64 1048576, .int .i64 1048577, .int .i64 (-1048577), .int .i64 by_] 3)).drew.cell? ⟨w.heap.size + 2, 5, none⟩ = some (.int .i64 by_) := kn.at_ rfl
        refine wpBut_pure 10 (v := .pointer (some ⟨w.heap.size + 2, 5, none⟩)) rfl (by kernel_rfl) (fun _ _ _ h => h) ⟨by rfl, fun W => ?_⟩ (fun _ => hSA) ?_
        · go_simp
        simp only [Act.put, List.setIfInBounds_toArray, List.set_cons_zero, List.set_cons_succ]
        refine wpBut_imp (S2 := fun W => (Ok w W ∧ W.cell? ⟨w.heap.size, 2, none⟩ = some (.int .i64 T) ∧ W.cell? ⟨w.heap.size, 3, none⟩ = some (.int .i64 N) ∧ W.cell? ⟨w.heap.size, 4, none⟩ = some (.int .i64 lo) ∧ W.cell? ⟨w.heap.size, 5, none⟩ = some (.int .i64 hi)) ∧ W.cell? ⟨w.heap.size + 2, 5, none⟩ = some (.int .i64 by_)) (fun _ h => h.1) _ _ _ _ ?_
        refine wpBut_take 11 (v := .int .i64 by_) rfl (by kernel_rfl) (fun _ _ _ h => h) ⟨by rfl, fun W hW => ?_⟩ ⟨hSA, hc⟩ ?_
        · obtain ⟨-, s1⟩ := hW
          go_simp
        simp only [Act.put, List.setIfInBounds_toArray, List.set_cons_zero, List.set_cons_succ]
        refine wpBut_pure 12 (v := .pointer (some ⟨w.heap.size, 5, none⟩)) rfl (by kernel_rfl) (fun _ _ _ h => h) ⟨by rfl, fun W => ?_⟩ (fun _ => ⟨hSA, hc⟩) ?_
        · go_simp
        simp only [Act.put, List.setIfInBounds_toArray, List.set_cons_zero, List.set_cons_succ]
        have f0 := ka.frozen 5
        have c0 : (w1.alloc (.cells #[.int .i64 Y2, .int .i64 Y1, .int .i64 1048576, .int .i64 1048577, .int .i64 (-1048577), .int .i64 by_] 3)).drew.cell? ⟨w.heap.size, 5, none⟩ = some _ := ka.at_ rfl
        refine wpBut_seq 13 (g := 0) (by decide) (by decide) (by rfl) (by kernel_rfl) ?_
        simp only [List.drop_succ_cons, List.drop_zero]
        go_wp2_with fail
        go_meet
        have okF : Ok w ((w1.setCell ⟨w.heap.size, 5, none⟩ (.int .i64 by_)).alloc (.cells #[.int .i64 Y2, .int .i64 Y1, .int .i64 1048576, .int .i64 1048577, .int .i64 (-1048577), .int .i64 by_] 3)).drew := Ok.drew (Ok.alloc (show Ok w (w1.setCell ⟨w.heap.size, 5, none⟩ (.int .i64 by_)) from (show Below w.heap.size w w1 from ok0).setCell (Nat.le_refl _) _) (.cells #[.int .i64 Y2, .int .i64 Y1, .int .i64 1048576, .int .i64 1048577, .int .i64 (-1048577), .int .i64 by_] 3))
        exact ⟨s, A, n, c, l, T, N, lo, by_, ((k0.set_ 5 _).alloc _).drew, ((k1.far (p := ⟨w.heap.size, 5, none⟩) (by simp) _).alloc _).drew, okF, Lib.hid ⟨(HRD.out.below okF).more (Below.size okF), HC.out.more (by omega), HB.out.1, HB.out.2.1, HH5.out, HB.out.2.2.2⟩, HNE.out⟩
    · obtain ⟨i0, hi0, hz0, hzb1, hzb2⟩ := info_parts info_u8
      obtain ⟨q, hq⟩ : ∃ q : Nat, q = (31 + r4).toNat := ⟨_, rfl⟩
      have hq1 : 31 ≤ q ∧ q ≤ 34 := by omega
      have hqw : IntKind.i64.wrap (31 + r4) = (q : Int) := by rw [show 31 + r4 = (q : Int) by omega]; exact wrap_small (by omega) (by omega)
      clear hq
      go_wp2_with fail
      refine (HA4.out _).mono ?_
      rintro E w1 ⟨rfl, rfl⟩
      go_upto_region 13 with (at_make; refine wpList_make_full w1 rfl _ _ 48 rfl w1.heap.size 5 i0 (.int .u8 0) 1 Tryd.underlying48 hi0 hz0 hzb1 .i64 .i64 _ _ q rfl rfl rfl rfl (by rw [hzb2]; omega) (by unfold maxLen; omega) (Nat.le_refl _) ?_; intro W2 o2 g2)
      rw [show (Value.int IntKind.u8 0).cells = #[Value.int IntKind.u8 0] from rfl, Nat.mul_one, toList_madeCells_one] at o2
      have o3 : W2.ownsRow w1.heap.size 5 1 (.slice (some ⟨w1.heap.size, 0, none⟩) (List.replicate q (0 : UInt8)).length q) (List.replicate q (0 : UInt8)).length (bytesV (List.replicate q 0)) := by
        rw [List.length_replicate]
        have e : bytesV (List.replicate q 0) = List.replicate q (Value.int IntKind.u8 0) := by unfold bytesV; rw [List.map_replicate]; rfl
        rw [e]
        exact o2
      have hcv := own_conv o3 (by rw [List.length_replicate]; omega)
      rw [List.length_replicate, hz1] at hcv
      have k2 := k0.grown g2 (by intro e; cases e)
      have k3 := k1.grown g2 (by intro e; cases e)
      have ok2 : Ok w W2 := (show Below w.heap.size w w1 from ok0).grown g2 (Below.size ok0) (fun r e => by cases e)
      have y0 : W2.cell? ⟨w.heap.size, 0, none⟩ = some (.string s) := k2.at_ rfl
      have z0 := k2.frozen 0
      clear o2 o3 g2
      go_wp2_with fail
      go_meet
      have okF : Ok w (W2.setCell ⟨w.heap.size, 0, none⟩ (.string ⟨(List.replicate q (0 : UInt8)).toArray⟩)) := (show Below w.heap.size w W2 from ok2).setCell (Nat.le_refl _) _
      refine ⟨⟨(List.replicate q (0 : UInt8)).toArray⟩, A, n, c, l, T, N, lo, hi, k2.set_ 0 _, k3.far (p := ⟨w.heap.size, 0, none⟩) (by simp) _, okF, Lib.hid ⟨(HRD.out.below okF).more (Below.size okF), ?_, HB.out.1, HB.out.2.1, HB.out.2.2.1, HB.out.2.2.2⟩, HNE.out⟩
      obtain ⟨d, e, g1, g2, g3⟩ := HC.out.cls
      exact ⟨⟨d, 1, by omega, seedC_zero (k := q) rfl hq1.1 hq1.2, g3⟩, HC.out.path, HC.out.n0, by have := HC.out.n1; omega, by show (List.replicate q (0 : UInt8)).toArray.size ≤ _; rw [List.size_toArray, List.length_replicate]; omega, HC.out.len⟩
    · obtain ⟨i0, hi0, hz0, hzb1, hzb2⟩ := info_parts info_i64
      obtain ⟨q, hq⟩ : ∃ q : Nat, q = (5 + r4).toNat := ⟨_, rfl⟩
      have hq1 : 5 ≤ q ∧ q ≤ 8 := by omega
      have hqw : IntKind.i64.wrap (5 + r4) = (q : Int) := by rw [show 5 + r4 = (q : Int) by omega]; exact wrap_small (by omega) (by omega)
      clear hq
      have HK0 := Lib.hid (And.intro k0 (And.intro k1 ok0))
      go_wp2_with fail
      refine (HA4.out _).mono ?_
      rintro E w1 ⟨rfl, rfl⟩
      go_wp2_with (at_make; refine wpList_make_full w1 rfl _ _ 22 rfl w1.heap.size 3 i0 (.int .i64 0) 1 Tryd.underlying22 hi0 hz0 hzb1 .i64 .i64 _ _ q rfl rfl rfl rfl (by rw [hzb2]; omega) (by unfold maxLen; omega) (Nat.le_refl _) ?_; intro W2 o2 g2; have y1 : W2.cell? ⟨w.heap.size, 1, none⟩ = some (.slice A n c) := (HK0.out.1.grown g2 (by intro e; cases e)).at_ rfl; have z1 := (HK0.out.1.grown g2 (by intro e; cases e)).frozen 1)
      go_meet
      rw [show (Value.int IntKind.i64 0).cells = #[Value.int IntKind.i64 0] from rfl, Nat.mul_one, toList_madeCells_one, hz1] at o2
      have k2 := k0.grown g2 (by intro e; cases e)
      have k3 := k1.grown g2 (by intro e; cases e)
      have ok2 : Ok w W2 := (show Below w.heap.size w w1 from ok0).grown g2 (Below.size ok0) (fun r e => by cases e)
      have okF : Ok w (W2.setCell ⟨w.heap.size, 1, none⟩ (.slice (some ⟨w.heap.size + 2, 0, none⟩) q q)) := (show Below w.heap.size w W2 from ok2).setCell (Nat.le_refl _) _
      have e : List.replicate q (Value.int IntKind.i64 0) = ints (List.replicate q 0) := by unfold ints; rw [List.map_replicate]
      rw [e] at o2
      have o4 := own_far (p := ⟨w.heap.size, 1, none⟩) (u := .slice (some ⟨w.heap.size + 2, 0, none⟩) q q) o2 (by intro e; injection e with e; simp at e)
      refine ⟨s, some ⟨w.heap.size + 2, 0, none⟩, q, q, List.replicate q 0, T, N, lo, hi, k2.set_ 1 _, k3.far (p := ⟨w.heap.size, 1, none⟩) (by simp) _, okF, Lib.hid ⟨Reads.of_own o4, ?_, HB.out.1, HB.out.2.1, HB.out.2.2.1, fun x hx => by rw [List.eq_of_mem_replicate hx]; unfold I64; omega⟩, .inr ⟨_, rfl, by show w.heap.size + 2 ≠ _; omega⟩⟩
      obtain ⟨d, e, g1, g2, g3⟩ := HC.out.cls
      exact ⟨⟨d, e, by omega, g2, g3⟩, pathC_zero hq1.1 hq1.2, HC.out.n0, by have := HC.out.n1; omega, by have := HC.out.size; omega, by rw [List.length_replicate]; omega⟩
    · have hcat : s.size + (ByteArray.mk #[120]).size ≤ 9223372036854775807 := by
        have := HC.out.size
        show s.size + 1 ≤ _
        omega
      have hcr := fun W => run_string_add_sum (P := Tryd.prog) W s ⟨#[120]⟩ hcat
      go_wp2_with fail
      go_meet
      have okF : Ok w (w1.setCell ⟨w.heap.size, 0, none⟩ (.string (s ++ ⟨#[120]⟩))) := (show Below w.heap.size w w1 from ok0).setCell (Nat.le_refl _) _
      refine ⟨s ++ ⟨#[120]⟩, A, n, c, l, T, N, lo, hi, k0.set_ 0 _, k1.far (p := ⟨w.heap.size, 0, none⟩) (by simp) _, okF, Lib.hid ⟨(HRD.out.below okF).more (Below.size okF), ?_, HB.out.1, HB.out.2.1, HB.out.2.2.1, HB.out.2.2.2⟩, HNE.out⟩
      obtain ⟨d, e, g1, g2, g3⟩ := HC.out.cls
      exact ⟨⟨d, e + 1, by omega, seedC_x g2 (by omega), g3⟩, HC.out.path, HC.out.n0, by have := HC.out.n1; omega, by have := HC.out.size; rw [ByteArray.size_append]; show s.size + 1 ≤ _; omega, HC.out.len⟩
  obtain ⟨s', A', n', c', l', T', N', lo', hi', e0, e1, e2, e3, e4⟩ := hcut
  clear HC HRD HB HN HN0 HN1 HN2 HN3 HT0 HT1 HT2 HT3 HT4 HL0 HL1 HL2 HL3 HL4 HL5 HH0 HH1 HH2 HH3 HH4 HH5
  have x0 : wc.cell? ⟨w.heap.size, 0, none⟩ = some (.string s') := e0.at_ rfl
  have y0 : wc.cell? ⟨w.heap.size + 1, 0, none⟩ = some (.string ⟨#[]⟩) := e1.at_ rfl
  have z0 := e1.frozen 0
  have x1 : wc.cell? ⟨w.heap.size, 1, none⟩ = some (.slice A' n' c') := e0.at_ rfl
  have y1 : wc.cell? ⟨w.heap.size + 1, 1, none⟩ = some (.slice none 0 0) := e1.at_ rfl
  have z1 := e1.frozen 1
  have x2 : wc.cell? ⟨w.heap.size, 2, none⟩ = some (.int .i64 T') := e0.at_ rfl
  have y2 : wc.cell? ⟨w.heap.size + 1, 2, none⟩ = some (.int .i64 0) := e1.at_ rfl
  have z2 := e1.frozen 2
  have x3 : wc.cell? ⟨w.heap.size, 3, none⟩ = some (.int .i64 N') := e0.at_ rfl
  have y3 : wc.cell? ⟨w.heap.size + 1, 3, none⟩ = some (.int .i64 0) := e1.at_ rfl
  have z3 := e1.frozen 3
  have x4 : wc.cell? ⟨w.heap.size, 4, none⟩ = some (.int .i64 lo') := e0.at_ rfl
  have y4 : wc.cell? ⟨w.heap.size + 1, 4, none⟩ = some (.int .i64 0) := e1.at_ rfl
  have z4 := e1.frozen 4
  have x5 : wc.cell? ⟨w.heap.size, 5, none⟩ = some (.int .i64 hi') := e0.at_ rfl
  have y5 : wc.cell? ⟨w.heap.size + 1, 5, none⟩ = some (.int .i64 0) := e1.at_ rfl
  have z5 := e1.frozen 5
  go_wp2_with fail
  have kf := ((((((e1.set_ 0 (.string s')).set_ 1 (.slice A' n' c')).set_ 2 (.int .i64 T')).set_ 3 (.int .i64 N')).set_ 4 (.int .i64 lo')).set_ 5 (.int .i64 hi'))
  have okF : Ok w ((((((wc.setCell ⟨w.heap.size + 1, 0, none⟩ (.string s')).setCell ⟨w.heap.size + 1, 1, none⟩ (.slice A' n' c')).setCell ⟨w.heap.size + 1, 2, none⟩ (.int .i64 T')).setCell ⟨w.heap.size + 1, 3, none⟩ (.int .i64 N')).setCell ⟨w.heap.size + 1, 4, none⟩ (.int .i64 lo')).setCell ⟨w.heap.size + 1, 5, none⟩ (.int .i64 hi')) := (((((((show Below w.heap.size w wc from e2).setCell (Nat.le_succ _) _).setCell (Nat.le_succ _) _).setCell (Nat.le_succ _) _).setCell (Nat.le_succ _) _).setCell (Nat.le_succ _) _).setCell (Nat.le_succ _) _)
  have rF : Reads ((((((wc.setCell ⟨w.heap.size + 1, 0, none⟩ (.string s')).setCell ⟨w.heap.size + 1, 1, none⟩ (.slice A' n' c')).setCell ⟨w.heap.size + 1, 2, none⟩ (.int .i64 T')).setCell ⟨w.heap.size + 1, 3, none⟩ (.int .i64 N')).setCell ⟨w.heap.size + 1, 4, none⟩ (.int .i64 lo')).setCell ⟨w.heap.size + 1, 5, none⟩ (.int .i64 hi')) ((((((wc.setCell ⟨w.heap.size + 1, 0, none⟩ (.string s')).setCell ⟨w.heap.size + 1, 1, none⟩ (.slice A' n' c')).setCell ⟨w.heap.size + 1, 2, none⟩ (.int .i64 T')).setCell ⟨w.heap.size + 1, 3, none⟩ (.int .i64 N')).setCell ⟨w.heap.size + 1, 4, none⟩ (.int .i64 lo')).setCell ⟨w.heap.size + 1, 5, none⟩ (.int .i64 hi')).heap.size 1 A' n' (ints l') := (reads_set (p := ⟨w.heap.size + 1, 5, none⟩) (reads_set (p := ⟨w.heap.size + 1, 4, none⟩) (reads_set (p := ⟨w.heap.size + 1, 3, none⟩) (reads_set (p := ⟨w.heap.size + 1, 2, none⟩) (reads_set (p := ⟨w.heap.size + 1, 1, none⟩) (reads_set (p := ⟨w.heap.size + 1, 0, none⟩) e3.out.1 e4 (.string s')) e4 (.slice A' n' c')) e4 (.int .i64 T')) e4 (.int .i64 N')) e4 (.int .i64 lo')) e4 (.int .i64 hi'))
  refine ret_row (g := w.heap.size + 1) (cs := spC s' A' n' c' T' N' lo' hi') (t := 24) Tryd.results5 rfl kf rfl Tryd.underlying24 info24 rfl ?_
  exact ⟨s', A', n', c', l', T', N', lo', hi', rfl, ⟨rF, e3.out.2⟩, okF⟩
end Go.Proofs.YtnionejefpnfoaaDoor
