/- The walk of Made: some valid split comes out. Conditions: the list's numbers have 64 bits. -/
import Derived.Test.YtnionejefpnfoaaDoorVg
import Derived.Test.YtnionejefpnfoaaDoorVi
import Derived.Test.YtnionejefpnfoaaDoorHs
set_option linter.unusedSimpArgs false
set_option linter.unusedVariables false
namespace Go.Proofs.YtnionejefpnfoaaDoor
open Go.RowKit Go.Shelf Go

/-- the seeds of made splits -/
def seedOf (x : Int) : ByteArray := if x = 0 then ⟨#[]⟩ else if x = 1 then ⟨#[115]⟩ else ⟨#[115, 101, 101, 100, 32, 50]⟩
theorem own_far {w : World} {base size k : Nat} {e : TypeId} {v u : Value} {xs : List Value} {p : Addr} (h : w.ownsRow base e size v k xs) (hne : some p.block ≠ v.ownBlock) : (w.setCell p u).ownsRow base e size v k xs := by
  refine ⟨h.1, ?_⟩
  rcases h.2 with hn | ⟨g, cap, cur, rfl, hg, hh, rest⟩
  · exact .inl hn
  · refine .inr ⟨g, cap, cur, rfl, hg, (show Blk w g e cur from hh).far (fun e => hne (by rw [e]; rfl)) u, rest⟩
set_option maxRecDepth 100000 in
set_option maxHeartbeats 16000000 in
theorem made_split (A : Option Addr) (n c : Nat) (l : List Int) (w : World) (hl : Reads w w.heap.size 1 A n (ints l)) (hI : ∀ x ∈ l, I64 x) :
    Calls Tryd.prog 4 #[.slice A n c] w fun E W' => ∃ x P q d p T, ∃ m : Nat, ∃ lo hi, E = .returned (spV (seedOf x) P q d T (m : Int) lo hi) ∧ 0 ≤ x ∧ x < 3 ∧ m = (rAt l 1 13).toNat ∧ lo = rAt l 2 7 - 2 ∧ hi = lo + rAt l 3 12 ∧
      q = (rAt l 4 4).toNat ∧ (∀ y ∈ p, 0 ≤ y ∧ y < 100) ∧ Reads W' W'.heap.size 1 P q (ints p) ∧ (m : Int) * lo ≤ T ∧ T ≤ (m : Int) * hi ∧ Below w.heap.size w W' := by
  have hx := rAt_lt l 0 3 (by omega)
  have hA : ∀ (i : Nat) (m : Int) W, i ≤ 100 → I64 m → Ok w W → Calls Tryd.prog 20 #[.slice A n c, .int .i64 (i : Int), .int .i64 m] W fun e w' => e = .returned (.int .i64 (rAt l i m)) ∧ w' = W := fun i m W hi hm hW => rAt_any A n c _ l i m W (hl.below hW) hI (by omega) hm
  have hN := rAt_lt l 1 13 (by omega)
  have hL := rAt_lt l 2 7 (by omega)
  have hH := rAt_lt l 3 12 (by omega)
  have hQ := rAt_lt l 4 4 (by omega)
  have ok0 : Ok w (w.alloc (.cells (spC ⟨#[]⟩ none 0 0 0 0 0 0) 24)) := (Ok.refl w).alloc _
  have k0 := Blk.new w 24 (spC ⟨#[]⟩ none 0 0 0 0 0 0)
  have HA0 : Hid (∀ W, Ok w W → Calls Tryd.prog 20 #[.slice A n c, .int .i64 0, .int .i64 3] W fun e w' => e = .returned (.int .i64 (rAt l 0 3)) ∧ w' = W) := Lib.hid (fun W hW => hA 0 3 W (by omega) (by unfold I64; omega) hW)
  have HA1 : Hid (∀ W, Ok w W → Calls Tryd.prog 20 #[.slice A n c, .int .i64 1, .int .i64 13] W fun e w' => e = .returned (.int .i64 (rAt l 1 13)) ∧ w' = W) := Lib.hid (fun W hW => hA 1 13 W (by omega) (by unfold I64; omega) hW)
  have HA2 : Hid (∀ W, Ok w W → Calls Tryd.prog 20 #[.slice A n c, .int .i64 2, .int .i64 7] W fun e w' => e = .returned (.int .i64 (rAt l 2 7)) ∧ w' = W) := Lib.hid (fun W hW => hA 2 7 W (by omega) (by unfold I64; omega) hW)
  have HA3 : Hid (∀ W, Ok w W → Calls Tryd.prog 20 #[.slice A n c, .int .i64 3, .int .i64 12] W fun e w' => e = .returned (.int .i64 (rAt l 3 12)) ∧ w' = W) := Lib.hid (fun W hW => hA 3 12 W (by omega) (by unfold I64; omega) hW)
  have HA4 : Hid (∀ W, Ok w W → Calls Tryd.prog 20 #[.slice A n c, .int .i64 4, .int .i64 4] W fun e w' => e = .returned (.int .i64 (rAt l 4 4)) ∧ w' = W) := Lib.hid (fun W hW => hA 4 4 W (by omega) (by unfold I64; omega) hW)
  have HA5 : Hid (∀ (j : Nat) W, j ≤ 10 → Ok w W → Calls Tryd.prog 20 #[.slice A n c, .int .i64 (5 + (j : Int)), .int .i64 100] W fun e w' => e = .returned (.int .i64 (rAt l (5 + j) 100)) ∧ w' = W) := Lib.hid (fun j W hj hW => by
    have := hA (5 + j) 100 W (by omega) (by unfold I64; omega) hW
    rw [show (((5 + j : Nat) : Int)) = 5 + (j : Int) by omega] at this
    exact this)
  have HA9 : Hid (∀ (m : Int) W, I64 m → Ok w W → Calls Tryd.prog 20 #[.slice A n c, .int .i64 9, .int .i64 m] W fun e w' => e = .returned (.int .i64 (rAt l 9 m)) ∧ w' = W) := Lib.hid (fun m W hm hW => hA 9 m W (by omega) hm hW)
  obtain ⟨x, hxe⟩ : ∃ x, x = rAt l 0 3 := ⟨_, rfl⟩
  rw [← hxe] at HA0 hx
  generalize hNe : rAt l 1 13 = N at *
  generalize hLe : rAt l 2 7 = r2 at *
  generalize hHe : rAt l 3 12 = r3 at *
  generalize hQe : rAt l 4 4 = Q at *
  have q1 : IntKind.i64.wrap (r2 - 2) = r2 - 2 := wrap_small (by omega) (by omega)
  have q2 : IntKind.i64.wrap (r2 - 2 + r3) = r2 - 2 + r3 := wrap_small (by omega) (by omega)
  clear hNe hLe hHe hQe hA hxe
  go_enter Tryd.func4, Tryd.ntmps4
  go_upto_region 1 with fail
  generalize hw1 : w.alloc (.cells (spC ⟨#[]⟩ none 0 0 0 0 0 0) 24) = w1 at *
  clear hw1
  go_cut [3] from 5 to 15 (fun v3 wx => ∃ g, v3 = .pointer (some ⟨g, 0, none⟩) ∧ w1.heap.size ≤ g ∧ Ok w1 wx ∧ Blk wx g 24 (spC (seedOf x) none 0 0 0 N (r2 - 2) 0))
  case first =>
    rcases (show x = 0 ∨ x = 1 ∨ x = 2 by omega) with rfl | rfl | rfl
    · refine wp_region_but (fun W => Ok w W ∧ Ok w1 W) [12] (by kernel_rfl) ⟨ok0.drew, (Ok.refl w1).drew⟩ fun hS0 => ?_
      refine wpBut_pure 1 (v := .slice A n c) rfl (by kernel_rfl) (fun _ _ _ h => h) ⟨by rfl, fun W => ?_⟩ (fun _ => hS0) ?_
      · go_simp
      simp only [Act.put, List.setIfInBounds_toArray, List.set_cons_zero, List.set_cons_succ]
      refine wpBut_call 2 (v := .int .i64 0) rfl (by kernel_rfl) (fun _ _ _ h => h) ⟨by rfl, fun W hW => ⟨20, _, ?_, HA0.out W hW.1⟩⟩ hS0 ?_
      · go_simp
      simp only [Act.put, List.setIfInBounds_toArray, List.set_cons_zero, List.set_cons_succ]
      refine wpBut_pure 5 (v := .slice A n c) rfl (by kernel_rfl) (fun _ _ _ h => h) ⟨by rfl, fun W => ?_⟩ (fun _ => hS0) ?_
      · go_simp
      simp only [Act.put, List.setIfInBounds_toArray, List.set_cons_zero, List.set_cons_succ]
      refine wpBut_call 6 (v := .int .i64 N) rfl (by kernel_rfl) (fun _ _ _ h => h) ⟨by rfl, fun W hW => ⟨20, _, ?_, HA1.out W hW.1⟩⟩ hS0 ?_
      · go_simp
      simp only [Act.put, List.setIfInBounds_toArray, List.set_cons_zero, List.set_cons_succ]
      refine wpBut_pure 7 (v := .slice A n c) rfl (by kernel_rfl) (fun _ _ _ h => h) ⟨by rfl, fun W => ?_⟩ (fun _ => hS0) ?_
      · go_simp
      simp only [Act.put, List.setIfInBounds_toArray, List.set_cons_zero, List.set_cons_succ]
      refine wpBut_call 8 (v := .int .i64 r2) rfl (by kernel_rfl) (fun _ _ _ h => h) ⟨by rfl, fun W hW => ⟨20, _, ?_, HA2.out W hW.1⟩⟩ hS0 ?_
      · go_simp
      simp only [Act.put, List.setIfInBounds_toArray, List.set_cons_zero, List.set_cons_succ]
      refine wpBut_pure 9 (v := .int .i64 (r2 - 2)) rfl (by kernel_rfl) (fun _ _ _ h => h) ⟨by rfl, fun W => ?_⟩ (fun _ => hS0) ?_
      · go_simp
      simp only [Act.put, List.setIfInBounds_toArray, List.set_cons_zero, List.set_cons_succ]
      refine wpBut_two 0 11 rfl rfl (by kernel_rfl) (fun K hK => ?_) (fun K hK => ?_)
      · go_simp
        refine hK.out _ _ ⟨(ok0.drew).alloc _, ((Ok.refl w1).drew).alloc _⟩ fun hS1 => ?_
        clear hK K hS0
        refine wpBut_pure 3 (v := .pointer (some ⟨w1.heap.size, 0, none⟩)) rfl (by kernel_rfl) (fun _ _ _ h => h) ⟨by rfl, fun W => ?_⟩ (fun _ => hS1) ?_
        · go_simp
        simp only [Act.put, List.setIfInBounds_toArray, List.set_cons_zero, List.set_cons_succ]
        have hc : (w1.drew.alloc (.cells #[.string ⟨#[]⟩, .string ⟨#[115]⟩, .string ⟨#[115, 101, 101, 100, 32, 50]⟩] 9)).cell? ⟨w1.heap.size, 0, none⟩ = some (.string ⟨#[]⟩) := (Blk.new w1.drew 9 _).at_ rfl
        refine wpBut_imp (S2 := fun W => (Ok w W ∧ Ok w1 W) ∧ W.cell? ⟨w1.heap.size, 0, none⟩ = some (.string ⟨#[]⟩)) (fun _ h => h.1) _ _ _ _ ?_
        refine wpBut_take 4 (v := .string ⟨#[]⟩) rfl (by kernel_rfl) (fun _ _ _ h => h) ⟨by rfl, fun W hW => ?_⟩ ⟨hS1, hc⟩ ?_
        · obtain ⟨s0, s1⟩ := hW
          go_simp
        simp only [Act.put, List.setIfInBounds_toArray, List.set_cons_zero, List.set_cons_succ]
        refine wpBut_pure 10 (v := spV ⟨#[]⟩ none 0 0 0 N (r2 - 2) 0) rfl (by kernel_rfl) (fun _ _ _ h => h) ⟨by rfl, fun W => ?_⟩ (fun _ => ⟨hS1, hc⟩) ?_
        · go_simp
        simp only [Act.put, List.setIfInBounds_toArray, List.set_cons_zero, List.set_cons_succ]
        refine wpBut_one 11 rfl (by kernel_rfl) fun K hK => ?_
        go_simp
        refine hK.out _ _ ⟨⟨((ok0.drew).alloc _).alloc _, (((Ok.refl w1).drew).alloc _).alloc _⟩, ((Blk.new w1.drew 9 _).alloc _).at_ rfl⟩ fun hS3 => ?_
        clear hK K
        refine wpBut_seq 12 (g := 0) (by decide) (by decide) (by rfl) (by kernel_rfl) ?_
        simp only [List.drop_succ_cons, List.drop_zero]
        go_wp2_with fail
        go_meet
        refine ⟨w1.heap.size + 1, rfl, by omega, (((Ok.refl w1).alloc _).alloc _).drew, ?_⟩
        rw [show seedOf 0 = ⟨#[]⟩ from rfl]
        exact (Blk.new' (by simp)).drew
      · go_simp
        refine hK.out _ _ ⟨(ok0.drew).alloc _, ((Ok.refl w1).drew).alloc _⟩ fun hS1 => ?_
        clear hK K hS0
        refine wpBut_one 0 rfl (by kernel_rfl) fun K hK => ?_
        go_simp
        refine hK.out _ _ ⟨((ok0.drew).alloc _).alloc _, (((Ok.refl w1).drew).alloc _).alloc _⟩ fun hS2 => ?_
        clear hK K hS1
        refine wpBut_pure 3 (v := .pointer (some ⟨w1.heap.size + 1, 0, none⟩)) rfl (by kernel_rfl) (fun _ _ _ h => h) ⟨by rfl, fun W => ?_⟩ (fun _ => hS2) ?_
        · go_simp
        simp only [Act.put, List.setIfInBounds_toArray, List.set_cons_zero, List.set_cons_succ]
        have hc : ((w1.drew.alloc (.cells (spC ⟨#[]⟩ none 0 0 0 0 0 0) 24)).alloc (.cells #[.string ⟨#[]⟩, .string ⟨#[115]⟩, .string ⟨#[115, 101, 101, 100, 32, 50]⟩] 9)).cell? ⟨w1.heap.size + 1, 0, none⟩ = some (.string ⟨#[]⟩) := (Blk.new' (W := w1.drew.alloc (.cells (spC ⟨#[]⟩ none 0 0 0 0 0 0) 24)) (t := 9) (by simp)).at_ rfl
        refine wpBut_imp (S2 := fun W => (Ok w W ∧ Ok w1 W) ∧ W.cell? ⟨w1.heap.size + 1, 0, none⟩ = some (.string ⟨#[]⟩)) (fun _ h => h.1) _ _ _ _ ?_
        refine wpBut_take 4 (v := .string ⟨#[]⟩) rfl (by kernel_rfl) (fun _ _ _ h => h) ⟨by rfl, fun W hW => ?_⟩ ⟨hS2, hc⟩ ?_
        · obtain ⟨s0, s1⟩ := hW
          go_simp
        simp only [Act.put, List.setIfInBounds_toArray, List.set_cons_zero, List.set_cons_succ]
        refine wpBut_pure 10 (v := spV ⟨#[]⟩ none 0 0 0 N (r2 - 2) 0) rfl (by kernel_rfl) (fun _ _ _ h => h) ⟨by rfl, fun W => ?_⟩ (fun _ => ⟨hS2, hc⟩) ?_
        · go_simp
        simp only [Act.put, List.setIfInBounds_toArray, List.set_cons_zero, List.set_cons_succ]
        refine wpBut_seq 12 (g := 0) (by decide) (by decide) (by rfl) (by kernel_rfl) ?_
        simp only [List.drop_succ_cons, List.drop_zero]
        go_wp2_with fail
        go_meet
        refine ⟨w1.heap.size, rfl, by omega, (((Ok.refl w1).alloc _).alloc _).drew, ?_⟩
        rw [show seedOf 0 = ⟨#[]⟩ from rfl]
        exact ((Blk.new w1 24 _).alloc _).drew
    · refine wp_region_but (fun W => Ok w W ∧ Ok w1 W) [12] (by kernel_rfl) ⟨ok0.drew, (Ok.refl w1).drew⟩ fun hS0 => ?_
      refine wpBut_pure 1 (v := .slice A n c) rfl (by kernel_rfl) (fun _ _ _ h => h) ⟨by rfl, fun W => ?_⟩ (fun _ => hS0) ?_
      · go_simp
      simp only [Act.put, List.setIfInBounds_toArray, List.set_cons_zero, List.set_cons_succ]
      refine wpBut_call 2 (v := .int .i64 1) rfl (by kernel_rfl) (fun _ _ _ h => h) ⟨by rfl, fun W hW => ⟨20, _, ?_, HA0.out W hW.1⟩⟩ hS0 ?_
      · go_simp
      simp only [Act.put, List.setIfInBounds_toArray, List.set_cons_zero, List.set_cons_succ]
      refine wpBut_pure 5 (v := .slice A n c) rfl (by kernel_rfl) (fun _ _ _ h => h) ⟨by rfl, fun W => ?_⟩ (fun _ => hS0) ?_
      · go_simp
      simp only [Act.put, List.setIfInBounds_toArray, List.set_cons_zero, List.set_cons_succ]
      refine wpBut_call 6 (v := .int .i64 N) rfl (by kernel_rfl) (fun _ _ _ h => h) ⟨by rfl, fun W hW => ⟨20, _, ?_, HA1.out W hW.1⟩⟩ hS0 ?_
      · go_simp
      simp only [Act.put, List.setIfInBounds_toArray, List.set_cons_zero, List.set_cons_succ]
      refine wpBut_pure 7 (v := .slice A n c) rfl (by kernel_rfl) (fun _ _ _ h => h) ⟨by rfl, fun W => ?_⟩ (fun _ => hS0) ?_
      · go_simp
      simp only [Act.put, List.setIfInBounds_toArray, List.set_cons_zero, List.set_cons_succ]
      refine wpBut_call 8 (v := .int .i64 r2) rfl (by kernel_rfl) (fun _ _ _ h => h) ⟨by rfl, fun W hW => ⟨20, _, ?_, HA2.out W hW.1⟩⟩ hS0 ?_
      · go_simp
      simp only [Act.put, List.setIfInBounds_toArray, List.set_cons_zero, List.set_cons_succ]
      refine wpBut_pure 9 (v := .int .i64 (r2 - 2)) rfl (by kernel_rfl) (fun _ _ _ h => h) ⟨by rfl, fun W => ?_⟩ (fun _ => hS0) ?_
      · go_simp
      simp only [Act.put, List.setIfInBounds_toArray, List.set_cons_zero, List.set_cons_succ]
      refine wpBut_two 0 11 rfl rfl (by kernel_rfl) (fun K hK => ?_) (fun K hK => ?_)
      · go_simp
        refine hK.out _ _ ⟨(ok0.drew).alloc _, ((Ok.refl w1).drew).alloc _⟩ fun hS1 => ?_
        clear hK K hS0
        refine wpBut_pure 3 (v := .pointer (some ⟨w1.heap.size, 1, none⟩)) rfl (by kernel_rfl) (fun _ _ _ h => h) ⟨by rfl, fun W => ?_⟩ (fun _ => hS1) ?_
        · go_simp
        simp only [Act.put, List.setIfInBounds_toArray, List.set_cons_zero, List.set_cons_succ]
        have hc : (w1.drew.alloc (.cells #[.string ⟨#[]⟩, .string ⟨#[115]⟩, .string ⟨#[115, 101, 101, 100, 32, 50]⟩] 9)).cell? ⟨w1.heap.size, 1, none⟩ = some (.string ⟨#[115]⟩) := (Blk.new w1.drew 9 _).at_ rfl
        refine wpBut_imp (S2 := fun W => (Ok w W ∧ Ok w1 W) ∧ W.cell? ⟨w1.heap.size, 1, none⟩ = some (.string ⟨#[115]⟩)) (fun _ h => h.1) _ _ _ _ ?_
        refine wpBut_take 4 (v := .string ⟨#[115]⟩) rfl (by kernel_rfl) (fun _ _ _ h => h) ⟨by rfl, fun W hW => ?_⟩ ⟨hS1, hc⟩ ?_
        · obtain ⟨s0, s1⟩ := hW
          go_simp
        simp only [Act.put, List.setIfInBounds_toArray, List.set_cons_zero, List.set_cons_succ]
        refine wpBut_pure 10 (v := spV ⟨#[115]⟩ none 0 0 0 N (r2 - 2) 0) rfl (by kernel_rfl) (fun _ _ _ h => h) ⟨by rfl, fun W => ?_⟩ (fun _ => ⟨hS1, hc⟩) ?_
        · go_simp
        simp only [Act.put, List.setIfInBounds_toArray, List.set_cons_zero, List.set_cons_succ]
        refine wpBut_one 11 rfl (by kernel_rfl) fun K hK => ?_
        go_simp
        refine hK.out _ _ ⟨⟨((ok0.drew).alloc _).alloc _, (((Ok.refl w1).drew).alloc _).alloc _⟩, ((Blk.new w1.drew 9 _).alloc _).at_ rfl⟩ fun hS3 => ?_
        clear hK K
        refine wpBut_seq 12 (g := 0) (by decide) (by decide) (by rfl) (by kernel_rfl) ?_
        simp only [List.drop_succ_cons, List.drop_zero]
        go_wp2_with fail
        go_meet
        refine ⟨w1.heap.size + 1, rfl, by omega, (((Ok.refl w1).alloc _).alloc _).drew, ?_⟩
        rw [show seedOf 1 = ⟨#[115]⟩ from rfl]
        exact (Blk.new' (by simp)).drew
      · go_simp
        refine hK.out _ _ ⟨(ok0.drew).alloc _, ((Ok.refl w1).drew).alloc _⟩ fun hS1 => ?_
        clear hK K hS0
        refine wpBut_one 0 rfl (by kernel_rfl) fun K hK => ?_
        go_simp
        refine hK.out _ _ ⟨((ok0.drew).alloc _).alloc _, (((Ok.refl w1).drew).alloc _).alloc _⟩ fun hS2 => ?_
        clear hK K hS1
        refine wpBut_pure 3 (v := .pointer (some ⟨w1.heap.size + 1, 1, none⟩)) rfl (by kernel_rfl) (fun _ _ _ h => h) ⟨by rfl, fun W => ?_⟩ (fun _ => hS2) ?_
        · go_simp
        simp only [Act.put, List.setIfInBounds_toArray, List.set_cons_zero, List.set_cons_succ]
        have hc : ((w1.drew.alloc (.cells (spC ⟨#[]⟩ none 0 0 0 0 0 0) 24)).alloc (.cells #[.string ⟨#[]⟩, .string ⟨#[115]⟩, .string ⟨#[115, 101, 101, 100, 32, 50]⟩] 9)).cell? ⟨w1.heap.size + 1, 1, none⟩ = some (.string ⟨#[115]⟩) := (Blk.new' (W := w1.drew.alloc (.cells (spC ⟨#[]⟩ none 0 0 0 0 0 0) 24)) (t := 9) (by simp)).at_ rfl
        refine wpBut_imp (S2 := fun W => (Ok w W ∧ Ok w1 W) ∧ W.cell? ⟨w1.heap.size + 1, 1, none⟩ = some (.string ⟨#[115]⟩)) (fun _ h => h.1) _ _ _ _ ?_
        refine wpBut_take 4 (v := .string ⟨#[115]⟩) rfl (by kernel_rfl) (fun _ _ _ h => h) ⟨by rfl, fun W hW => ?_⟩ ⟨hS2, hc⟩ ?_
        · obtain ⟨s0, s1⟩ := hW
          go_simp
        simp only [Act.put, List.setIfInBounds_toArray, List.set_cons_zero, List.set_cons_succ]
        refine wpBut_pure 10 (v := spV ⟨#[115]⟩ none 0 0 0 N (r2 - 2) 0) rfl (by kernel_rfl) (fun _ _ _ h => h) ⟨by rfl, fun W => ?_⟩ (fun _ => ⟨hS2, hc⟩) ?_
        · go_simp
        simp only [Act.put, List.setIfInBounds_toArray, List.set_cons_zero, List.set_cons_succ]
        refine wpBut_seq 12 (g := 0) (by decide) (by decide) (by rfl) (by kernel_rfl) ?_
        simp only [List.drop_succ_cons, List.drop_zero]
        go_wp2_with fail
        go_meet
        refine ⟨w1.heap.size, rfl, by omega, (((Ok.refl w1).alloc _).alloc _).drew, ?_⟩
        rw [show seedOf 1 = ⟨#[115]⟩ from rfl]
        exact ((Blk.new w1 24 _).alloc _).drew
    · refine wp_region_but (fun W => Ok w W ∧ Ok w1 W) [12] (by kernel_rfl) ⟨ok0.drew, (Ok.refl w1).drew⟩ fun hS0 => ?_
      refine wpBut_pure 1 (v := .slice A n c) rfl (by kernel_rfl) (fun _ _ _ h => h) ⟨by rfl, fun W => ?_⟩ (fun _ => hS0) ?_
      · go_simp
      simp only [Act.put, List.setIfInBounds_toArray, List.set_cons_zero, List.set_cons_succ]
      refine wpBut_call 2 (v := .int .i64 2) rfl (by kernel_rfl) (fun _ _ _ h => h) ⟨by rfl, fun W hW => ⟨20, _, ?_, HA0.out W hW.1⟩⟩ hS0 ?_
      · go_simp
      simp only [Act.put, List.setIfInBounds_toArray, List.set_cons_zero, List.set_cons_succ]
      refine wpBut_pure 5 (v := .slice A n c) rfl (by kernel_rfl) (fun _ _ _ h => h) ⟨by rfl, fun W => ?_⟩ (fun _ => hS0) ?_
      · go_simp
      simp only [Act.put, List.setIfInBounds_toArray, List.set_cons_zero, List.set_cons_succ]
      refine wpBut_call 6 (v := .int .i64 N) rfl (by kernel_rfl) (fun _ _ _ h => h) ⟨by rfl, fun W hW => ⟨20, _, ?_, HA1.out W hW.1⟩⟩ hS0 ?_
      · go_simp
      simp only [Act.put, List.setIfInBounds_toArray, List.set_cons_zero, List.set_cons_succ]
      refine wpBut_pure 7 (v := .slice A n c) rfl (by kernel_rfl) (fun _ _ _ h => h) ⟨by rfl, fun W => ?_⟩ (fun _ => hS0) ?_
      · go_simp
      simp only [Act.put, List.setIfInBounds_toArray, List.set_cons_zero, List.set_cons_succ]
      refine wpBut_call 8 (v := .int .i64 r2) rfl (by kernel_rfl) (fun _ _ _ h => h) ⟨by rfl, fun W hW => ⟨20, _, ?_, HA2.out W hW.1⟩⟩ hS0 ?_
      · go_simp
      simp only [Act.put, List.setIfInBounds_toArray, List.set_cons_zero, List.set_cons_succ]
      refine wpBut_pure 9 (v := .int .i64 (r2 - 2)) rfl (by kernel_rfl) (fun _ _ _ h => h) ⟨by rfl, fun W => ?_⟩ (fun _ => hS0) ?_
      · go_simp
      simp only [Act.put, List.setIfInBounds_toArray, List.set_cons_zero, List.set_cons_succ]
      refine wpBut_two 0 11 rfl rfl (by kernel_rfl) (fun K hK => ?_) (fun K hK => ?_)
      · go_simp
        refine hK.out _ _ ⟨(ok0.drew).alloc _, ((Ok.refl w1).drew).alloc _⟩ fun hS1 => ?_
        clear hK K hS0
        refine wpBut_pure 3 (v := .pointer (some ⟨w1.heap.size, 2, none⟩)) rfl (by kernel_rfl) (fun _ _ _ h => h) ⟨by rfl, fun W => ?_⟩ (fun _ => hS1) ?_
        · go_simp
        simp only [Act.put, List.setIfInBounds_toArray, List.set_cons_zero, List.set_cons_succ]
        have hc : (w1.drew.alloc (.cells #[.string ⟨#[]⟩, .string ⟨#[115]⟩, .string ⟨#[115, 101, 101, 100, 32, 50]⟩] 9)).cell? ⟨w1.heap.size, 2, none⟩ = some (.string ⟨#[115, 101, 101, 100, 32, 50]⟩) := (Blk.new w1.drew 9 _).at_ rfl
        refine wpBut_imp (S2 := fun W => (Ok w W ∧ Ok w1 W) ∧ W.cell? ⟨w1.heap.size, 2, none⟩ = some (.string ⟨#[115, 101, 101, 100, 32, 50]⟩)) (fun _ h => h.1) _ _ _ _ ?_
        refine wpBut_take 4 (v := .string ⟨#[115, 101, 101, 100, 32, 50]⟩) rfl (by kernel_rfl) (fun _ _ _ h => h) ⟨by rfl, fun W hW => ?_⟩ ⟨hS1, hc⟩ ?_
        · obtain ⟨s0, s1⟩ := hW
          go_simp
        simp only [Act.put, List.setIfInBounds_toArray, List.set_cons_zero, List.set_cons_succ]
        refine wpBut_pure 10 (v := spV ⟨#[115, 101, 101, 100, 32, 50]⟩ none 0 0 0 N (r2 - 2) 0) rfl (by kernel_rfl) (fun _ _ _ h => h) ⟨by rfl, fun W => ?_⟩ (fun _ => ⟨hS1, hc⟩) ?_
        · go_simp
        simp only [Act.put, List.setIfInBounds_toArray, List.set_cons_zero, List.set_cons_succ]
        refine wpBut_one 11 rfl (by kernel_rfl) fun K hK => ?_
        go_simp
        refine hK.out _ _ ⟨⟨((ok0.drew).alloc _).alloc _, (((Ok.refl w1).drew).alloc _).alloc _⟩, ((Blk.new w1.drew 9 _).alloc _).at_ rfl⟩ fun hS3 => ?_
        clear hK K
        refine wpBut_seq 12 (g := 0) (by decide) (by decide) (by rfl) (by kernel_rfl) ?_
        simp only [List.drop_succ_cons, List.drop_zero]
        go_wp2_with fail
        go_meet
        refine ⟨w1.heap.size + 1, rfl, by omega, (((Ok.refl w1).alloc _).alloc _).drew, ?_⟩
        rw [show seedOf 2 = ⟨#[115, 101, 101, 100, 32, 50]⟩ from rfl]
        exact (Blk.new' (by simp)).drew
      · go_simp
        refine hK.out _ _ ⟨(ok0.drew).alloc _, ((Ok.refl w1).drew).alloc _⟩ fun hS1 => ?_
        clear hK K hS0
        refine wpBut_one 0 rfl (by kernel_rfl) fun K hK => ?_
        go_simp
        refine hK.out _ _ ⟨((ok0.drew).alloc _).alloc _, (((Ok.refl w1).drew).alloc _).alloc _⟩ fun hS2 => ?_
        clear hK K hS1
        refine wpBut_pure 3 (v := .pointer (some ⟨w1.heap.size + 1, 2, none⟩)) rfl (by kernel_rfl) (fun _ _ _ h => h) ⟨by rfl, fun W => ?_⟩ (fun _ => hS2) ?_
        · go_simp
        simp only [Act.put, List.setIfInBounds_toArray, List.set_cons_zero, List.set_cons_succ]
        have hc : ((w1.drew.alloc (.cells (spC ⟨#[]⟩ none 0 0 0 0 0 0) 24)).alloc (.cells #[.string ⟨#[]⟩, .string ⟨#[115]⟩, .string ⟨#[115, 101, 101, 100, 32, 50]⟩] 9)).cell? ⟨w1.heap.size + 1, 2, none⟩ = some (.string ⟨#[115, 101, 101, 100, 32, 50]⟩) := (Blk.new' (W := w1.drew.alloc (.cells (spC ⟨#[]⟩ none 0 0 0 0 0 0) 24)) (t := 9) (by simp)).at_ rfl
        refine wpBut_imp (S2 := fun W => (Ok w W ∧ Ok w1 W) ∧ W.cell? ⟨w1.heap.size + 1, 2, none⟩ = some (.string ⟨#[115, 101, 101, 100, 32, 50]⟩)) (fun _ h => h.1) _ _ _ _ ?_
        refine wpBut_take 4 (v := .string ⟨#[115, 101, 101, 100, 32, 50]⟩) rfl (by kernel_rfl) (fun _ _ _ h => h) ⟨by rfl, fun W hW => ?_⟩ ⟨hS2, hc⟩ ?_
        · obtain ⟨s0, s1⟩ := hW
          go_simp
        simp only [Act.put, List.setIfInBounds_toArray, List.set_cons_zero, List.set_cons_succ]
        refine wpBut_pure 10 (v := spV ⟨#[115, 101, 101, 100, 32, 50]⟩ none 0 0 0 N (r2 - 2) 0) rfl (by kernel_rfl) (fun _ _ _ h => h) ⟨by rfl, fun W => ?_⟩ (fun _ => ⟨hS2, hc⟩) ?_
        · go_simp
        simp only [Act.put, List.setIfInBounds_toArray, List.set_cons_zero, List.set_cons_succ]
        refine wpBut_seq 12 (g := 0) (by decide) (by decide) (by rfl) (by kernel_rfl) ?_
        simp only [List.drop_succ_cons, List.drop_zero]
        go_wp2_with fail
        go_meet
        refine ⟨w1.heap.size, rfl, by omega, (((Ok.refl w1).alloc _).alloc _).drew, ?_⟩
        rw [show seedOf 2 = ⟨#[115, 101, 101, 100, 32, 50]⟩ from rfl]
        exact ((Blk.new w1 24 _).alloc _).drew
  obtain ⟨g, rfl, hg1, ok2, k2⟩ := hcut
  have okw : Ok w wc := ok0.trans (Below.mono ok2 ok0.size)
  have k1 : Blk wc w.heap.size 24 (spC ⟨#[]⟩ none 0 0 0 0 0 0) := k0.thru ok2
  have hgw : w.heap.size < g := Nat.lt_of_lt_of_le k0.lt hg1
  generalize hsd : seedOf x = sd at *
  have HSD := Lib.hid hsd
  obtain ⟨LO, hLO⟩ : ∃ y, y = r2 - 2 := ⟨_, rfl⟩
  obtain ⟨HI, hHI⟩ : ∃ y, y = r2 - 2 + r3 := ⟨_, rfl⟩
  rw [← hLO] at k2
  have q2 : IntKind.i64.wrap (LO + r3) = HI := by rw [hLO, hHI]; exact wrap_small (by omega) (by omega)
  have q3 : IntKind.i64.wrap (HI - LO) = r3 := by rw [show HI - LO = r3 by omega]; exact wrap_small (by omega) (by omega)
  have hml := mul_small (a := N) (b := LO) (by omega) (by omega) (by omega) (by omega)
  have hmr := mul_small (a := N) (b := r3) (by omega) (by omega) (by omega) (by omega)
  have hr0 : 0 ≤ N * r3 := Int.mul_nonneg (by omega) (by omega)
  have hmh : N * HI = N * LO + N * r3 := by rw [show HI = LO + r3 by omega, Int.mul_add]
  obtain ⟨X1, hX1⟩ : ∃ y, y = N * LO := ⟨_, rfl⟩
  obtain ⟨X2, hX2⟩ : ∃ y, y = N * r3 := ⟨_, rfl⟩
  rw [← hX1] at hml hmh
  rw [← hX2] at hmr hmh hr0
  have q4 : IntKind.i64.wrap (N * LO) = X1 := by rw [← hX1]; exact wrap_small (by omega) (by omega)
  have q5 : IntKind.i64.wrap (N * r3) = X2 := by rw [← hX2]; exact wrap_small (by omega) (by omega)
  have q6 : IntKind.i64.wrap (X2 + 1) = X2 + 1 := wrap_small (by omega) (by omega)
  have hr9 := rAt_lt l 9 (X2 + 1) (by omega)
  have HA6 : Hid (∀ W, Ok w W → Calls Tryd.prog 20 #[.slice A n c, .int .i64 9, .int .i64 (X2 + 1)] W fun e w' => e = .returned (.int .i64 (rAt l 9 (X2 + 1))) ∧ w' = W) := Lib.hid (fun W hW => HA9.out (X2 + 1) W ⟨by omega, by omega⟩ hW)
  generalize rAt l 9 (X2 + 1) = r9 at *
  have q7 : IntKind.i64.wrap (X1 + r9) = X1 + r9 := wrap_small (by omega) (by omega)
  have HB : Hid (LO = r2 - 2 ∧ HI = r2 - 2 + r3 ∧ X1 = N * LO ∧ N * HI = X1 + X2) := Lib.hid ⟨hLO, hHI, hX1, hmh⟩
  clear hml hmr hLO hHI hmh hX1 hX2 q1 HA9 HA0 HA1 HA2 k0 ok0 ok2 hg1 hsd
  have c4 : wc.drew.cell? ⟨g, 4, none⟩ = some (.int .i64 LO) := k2.drew.at_ rfl
  have c5 : wc.drew.cell? ⟨g, 5, none⟩ = some (.int .i64 0) := k2.drew.at_ rfl
  have f5 : wc.drew.frozen? ⟨g, 5, none⟩ = false := k2.drew.frozen 5
  go_upto_region 2 with fail
  refine wp_region_but (fun W => Ok w W ∧ W.cell? ⟨g, 4, none⟩ = some (.int .i64 LO)) [6] (by kernel_rfl) ⟨okw.drew, c4⟩ fun hS0 => ?_
  refine wpBut_pure 0 (v := .pointer (some ⟨g, 4, none⟩)) rfl (by kernel_rfl) (fun _ _ _ h => h) ⟨by rfl, fun W => ?_⟩ (fun _ => hS0) ?_
  · go_simp
  simp only [Act.put, List.setIfInBounds_toArray, List.set_cons_zero, List.set_cons_succ]
  refine wpBut_take 1 (v := .int .i64 LO) rfl (by kernel_rfl) (fun _ _ _ h => h) ⟨by rfl, fun W hW => ?_⟩ hS0 ?_
  · obtain ⟨s0, s1⟩ := hW
    go_simp
  simp only [Act.put, List.setIfInBounds_toArray, List.set_cons_zero, List.set_cons_succ]
  refine wpBut_pure 2 (v := .slice A n c) rfl (by kernel_rfl) (fun _ _ _ h => h) ⟨by rfl, fun W => ?_⟩ (fun _ => hS0) ?_
  · go_simp
  simp only [Act.put, List.setIfInBounds_toArray, List.set_cons_zero, List.set_cons_succ]
  refine wpBut_call 3 (v := .int .i64 r3) rfl (by kernel_rfl) (fun _ _ _ h => h) ⟨by rfl, fun W hW => ⟨20, _, ?_, HA3.out W hW.1⟩⟩ hS0 ?_
  · go_simp
  simp only [Act.put, List.setIfInBounds_toArray, List.set_cons_zero, List.set_cons_succ]
  refine wpBut_pure 4 (v := .int .i64 HI) rfl (by kernel_rfl) (fun _ _ _ h => h) ⟨by rfl, fun W => ?_⟩ (fun _ => hS0) ?_
  · go_simp
  simp only [Act.put, List.setIfInBounds_toArray, List.set_cons_zero, List.set_cons_succ]
  refine wpBut_pure 5 (v := .pointer (some ⟨g, 5, none⟩)) rfl (by kernel_rfl) (fun _ _ _ h => h) ⟨by rfl, fun W => ?_⟩ (fun _ => hS0) ?_
  · go_simp
  simp only [Act.put, List.setIfInBounds_toArray, List.set_cons_zero, List.set_cons_succ]
  refine wpBut_seq 6 (g := 0) (by decide) (by decide) (by rfl) (by kernel_rfl) ?_
  simp only [List.drop_succ_cons, List.drop_zero]
  go_wp2_with fail
  have kg : Blk (wc.setCell ⟨g, 5, none⟩ (.int .i64 HI)).drew g 24 (spC sd none 0 0 0 N LO HI) := (k2.set_ 5 (.int .i64 HI)).drew
  have kr : Blk (wc.setCell ⟨g, 5, none⟩ (.int .i64 HI)).drew w.heap.size 24 (spC ⟨#[]⟩ none 0 0 0 0 0 0) := (k1.far (by simp; omega) _).drew
  have kb : Ok w (wc.setCell ⟨g, 5, none⟩ (.int .i64 HI)).drew := Ok.drew ((show Below w.heap.size w wc from okw).setCell (by simp; omega) _)
  obtain ⟨i0, hi0, hz0, hz1, hz2⟩ := info_parts info_i64
  generalize (wc.setCell ⟨g, 5, none⟩ (.int .i64 HI)).drew = w2 at *
  clear k2 k1 c4 c5 f5 okw
  have kv : ∀ X : Nat, w2.ownsRow X 3 1 (.slice none 0 0) 0 (ints []) := fun X => ⟨rfl, .inl ⟨rfl, rfl⟩⟩
  go_loopw [4] (fun i wr => ∃ k : Nat, (k : Int) ≤ Q ∧ i = .int .i64 (k : Int) ∧ ∃ v p, Blk wr w.heap.size 24 (spC ⟨#[]⟩ none 0 0 0 0 0 0) ∧ Blk wr g 24 #[.string sd, v, .int .i64 0, .int .i64 N, .int .i64 LO, .int .i64 HI] ∧ wr.ownsRow w.heap.size 3 1 v k (ints p) ∧ (∀ y ∈ p, 0 ≤ y ∧ y < 100) ∧ Ok w wr) (fun i _ => (Q - intOf i).toNat)
  case atStart => exact ⟨0, by omega, rfl, _, [], kr, kg, kv _, by simp, kb⟩
  case round =>
    clear kr kg kv kb
    obtain ⟨k, hk, rfl, v, p, kr, kg, ho, hp, kb⟩ := hrel
    by_cases hlt : (k : Int) < Q
    · have hy := rAt_lt l (5 + k) 100 (by omega)
      have hc5 : Hid (∀ W, Ok w W → Calls Tryd.prog 20 #[.slice A n c, .int .i64 (5 + (k : Int)), .int .i64 100] W fun e w' => e = .returned (.int .i64 (rAt l (5 + k) 100)) ∧ w' = W) := Lib.hid (fun W hW => HA5.out k W (by omega) hW)
      generalize rAt l (5 + k) 100 = y at *
      have hk4 : k ≤ 10 := by omega
      have q8 : IntKind.i64.wrap (5 + (k : Int)) = 5 + (k : Int) := wrap_small (by omega) (by omega)
      have cv : wr.drew.cell? ⟨g, 1, none⟩ = some v := kg.drew.at_ rfl
      go_wp2_with fail
      refine (HA4.out _ kb).mono ?_
      rintro E wq ⟨rfl, hwq⟩
      have HWQ := Lib.hid hwq
      clear hwq
      go_upto_region 6 with fail
      rw [HWQ.out]
      clear HWQ
      refine wp_region_but (fun W => Ok w W ∧ W.cell? ⟨g, 1, none⟩ = some v) [9] (by kernel_rfl) ⟨kb.drew, cv⟩ fun hS0 => ?_
      refine wpBut_pure 0 (v := .pointer (some ⟨g, 1, none⟩)) rfl (by kernel_rfl) (fun _ _ _ h => h) ⟨by rfl, fun W => ?_⟩ (fun _ => hS0) ?_
      · go_simp
      simp only [Act.put, List.setIfInBounds_toArray, List.set_cons_zero, List.set_cons_succ]
      refine wpBut_take 1 (v := v) rfl (by kernel_rfl) (fun _ _ _ h => h) ⟨by rfl, fun W hW => ?_⟩ hS0 ?_
      · obtain ⟨s0, s1⟩ := hW
        go_simp
      simp only [Act.put, List.setIfInBounds_toArray, List.set_cons_zero, List.set_cons_succ]
      refine wpBut_pure 2 (v := .slice A n c) rfl (by kernel_rfl) (fun _ _ _ h => h) ⟨by rfl, fun W => ?_⟩ (fun _ => hS0) ?_
      · go_simp
      simp only [Act.put, List.setIfInBounds_toArray, List.set_cons_zero, List.set_cons_succ]
      refine wpBut_pure 3 (v := .int .i64 (k : Int)) rfl (by kernel_rfl) (fun _ _ _ h => h) ⟨by rfl, fun W => ?_⟩ (fun _ => hS0) ?_
      · go_simp
      simp only [Act.put, List.setIfInBounds_toArray, List.set_cons_zero, List.set_cons_succ]
      refine wpBut_pure 4 (v := .int .i64 (5 + (k : Int))) rfl (by kernel_rfl) (fun _ _ _ h => h) ⟨by rfl, fun W => ?_⟩ (fun _ => hS0) ?_
      · go_simp
      simp only [Act.put, List.setIfInBounds_toArray, List.set_cons_zero, List.set_cons_succ]
      refine wpBut_call 5 (v := .int .i64 y) rfl (by kernel_rfl) (fun _ _ _ h => h) ⟨by rfl, fun W hW => ⟨20, _, ?_, hc5.out W hW.1⟩⟩ hS0 ?_
      · go_simp
      simp only [Act.put, List.setIfInBounds_toArray, List.set_cons_zero, List.set_cons_succ]
      refine wpBut_one 6 rfl (by kernel_rfl) fun K hK => ?_
      go_simp
      refine hK.out _ _ ⟨kb.drew.alloc _, (kg.drew.alloc _).at_ rfl⟩ fun hS1 => ?_
      clear hK K
      refine wpBut_one 7 rfl (by kernel_rfl) fun K hK => ?_
      rw [if_pos (by rfl)]
      have hoa := (show wr.drew.ownsRow w.heap.size 3 1 v k (ints p) from ho).alloc (.cells #[.int .i64 y] 3)
      have hpl : p.length = k := by have := ho.1; rw [ints_length] at this; omega
      refine wp_append_own _ _ _ 22 rfl w.heap.size 3 i0 (.int .i64 0) 1 8 Tryd.underlying22 hi0 hz0 hz1 hz2 rfl (by decide) v k (ints p) rfl hoa ⟨wr.heap.size, 0, none⟩ 1 1 [.int .i64 y] rfl rfl (cell_one_new _ _ _) (by simp [Value.oneCell']) (by unfold maxLen; omega) (by omega) (Nat.le_trans kb.size (by simp)) ?_
      intro v' w' ho' hg' _
      obtain ⟨g', cap', rfl⟩ := ownsRow_succ ho'
      have kga := (kg.drew.alloc (.cells #[.int .i64 y] 3))
      have kgn := kga.grown hg' (own_ne_blk hoa kga (by decide))
      have kra := (kr.drew.alloc (.cells #[.int .i64 y] 3))
      have krn := kra.grown hg' (own_ne_blk hoa kra (by decide))
      have kbn : Ok w w' := (show Below w.heap.size w (wr.drew.alloc (.cells #[.int .i64 y] 3)) from kb.drew.alloc _).grown hg' (Nat.le_trans kb.size (by simp)) (fun r e => (hoa.lt r e).1)
      refine hK.out _ _ ⟨kbn, kgn.at_ rfl⟩ fun hS2 => ?_
      clear hK K
      simp only [Act.put, List.setIfInBounds_toArray, List.set_cons_zero, List.set_cons_succ]
      refine wpBut_pure 8 (v := .pointer (some ⟨g, 1, none⟩)) rfl (by kernel_rfl) (fun _ _ _ h => h) ⟨by rfl, fun W => ?_⟩ (fun _ => hS2) ?_
      · go_simp
      simp only [Act.put, List.setIfInBounds_toArray, List.set_cons_zero, List.set_cons_succ]
      refine wpBut_seq 9 (g := 0) (by decide) (by decide) (by rfl) (by kernel_rfl) ?_
      simp only [List.drop_succ_cons, List.drop_zero]
      have cw : w'.cell? ⟨g, 1, none⟩ = some v := kgn.at_ rfl
      have fw := kgn.frozen 1
      have hne := own_ne_blk ho' kgn (by decide)
      clear kga kra hS0 hS1 hS2 kg kr kb hoa cv
      go_wp2_with fail
      refine ⟨⟨k + 1, by omega, by go_num, _, p ++ [y], krn.far (by simp; omega) _, kgn.set_ 1 _, ?_, ?_, (show Below w.heap.size w w' from kbn).setCell (by simp; omega) _⟩, ?_⟩
      · rw [ints_snoc]
        exact own_far ho' hne
      · intro z hz
        rcases List.mem_append.1 hz with h1 | h1
        · exact hp z h1
        · rw [List.mem_singleton.1 h1]
          exact hy
      · simp only [intOf]
        omega
    · have hkq : (k : Int) = Q := by omega
      go_wp2_with fail
      refine (HA4.out _ kb).mono ?_
      rintro E wq ⟨rfl, hwq⟩
      have HWQ := Lib.hid hwq
      clear hwq
      go_upto_region 7 with fail
      rw [HWQ.out]
      clear HWQ
      obtain ⟨A7, c7, rfl, -, -, -⟩ := own_slice ho
      have c3 : wr.drew.cell? ⟨g, 3, none⟩ = some (.int .i64 N) := kg.drew.at_ rfl
      have c4 : wr.drew.cell? ⟨g, 4, none⟩ = some (.int .i64 LO) := kg.drew.at_ rfl
      have c5 : wr.drew.cell? ⟨g, 5, none⟩ = some (.int .i64 HI) := kg.drew.at_ rfl
      have c2 : wr.drew.cell? ⟨g, 2, none⟩ = some (.int .i64 0) := kg.drew.at_ rfl
      have f2 : wr.drew.frozen? ⟨g, 2, none⟩ = false := kg.drew.frozen 2
      refine wp_region_but (fun W => Ok w W ∧ W.cell? ⟨g, 3, none⟩ = some (.int .i64 N) ∧ W.cell? ⟨g, 4, none⟩ = some (.int .i64 LO) ∧ W.cell? ⟨g, 5, none⟩ = some (.int .i64 HI)) [18] (by kernel_rfl) ⟨kb.drew, c3, c4, c5⟩ fun hS0 => ?_
      refine wpBut_pure 0 (v := .pointer (some ⟨g, 3, none⟩)) rfl (by kernel_rfl) (fun _ _ _ h => h) ⟨by rfl, fun W => ?_⟩ (fun _ => hS0) ?_
      · go_simp
      simp only [Act.put, List.setIfInBounds_toArray, List.set_cons_zero, List.set_cons_succ]
      refine wpBut_take 1 (v := .int .i64 N) rfl (by kernel_rfl) (fun _ _ _ h => h) ⟨by rfl, fun W hW => ?_⟩ hS0 ?_
      · obtain ⟨s0, s3, s4, s5⟩ := hW
        go_simp
      simp only [Act.put, List.setIfInBounds_toArray, List.set_cons_zero, List.set_cons_succ]
      refine wpBut_pure 2 (v := .pointer (some ⟨g, 4, none⟩)) rfl (by kernel_rfl) (fun _ _ _ h => h) ⟨by rfl, fun W => ?_⟩ (fun _ => hS0) ?_
      · go_simp
      simp only [Act.put, List.setIfInBounds_toArray, List.set_cons_zero, List.set_cons_succ]
      refine wpBut_take 3 (v := .int .i64 LO) rfl (by kernel_rfl) (fun _ _ _ h => h) ⟨by rfl, fun W hW => ?_⟩ hS0 ?_
      · obtain ⟨s0, s3, s4, s5⟩ := hW
        go_simp
      simp only [Act.put, List.setIfInBounds_toArray, List.set_cons_zero, List.set_cons_succ]
      refine wpBut_pure 4 (v := .int .i64 X1) rfl (by kernel_rfl) (fun _ _ _ h => h) ⟨by rfl, fun W => ?_⟩ (fun _ => hS0) ?_
      · go_simp
      simp only [Act.put, List.setIfInBounds_toArray, List.set_cons_zero, List.set_cons_succ]
      refine wpBut_pure 5 (v := .slice A n c) rfl (by kernel_rfl) (fun _ _ _ h => h) ⟨by rfl, fun W => ?_⟩ (fun _ => hS0) ?_
      · go_simp
      simp only [Act.put, List.setIfInBounds_toArray, List.set_cons_zero, List.set_cons_succ]
      refine wpBut_pure 6 (v := .pointer (some ⟨g, 3, none⟩)) rfl (by kernel_rfl) (fun _ _ _ h => h) ⟨by rfl, fun W => ?_⟩ (fun _ => hS0) ?_
      · go_simp
      simp only [Act.put, List.setIfInBounds_toArray, List.set_cons_zero, List.set_cons_succ]
      refine wpBut_take 7 (v := .int .i64 N) rfl (by kernel_rfl) (fun _ _ _ h => h) ⟨by rfl, fun W hW => ?_⟩ hS0 ?_
      · obtain ⟨s0, s3, s4, s5⟩ := hW
        go_simp
      simp only [Act.put, List.setIfInBounds_toArray, List.set_cons_zero, List.set_cons_succ]
      refine wpBut_pure 8 (v := .pointer (some ⟨g, 5, none⟩)) rfl (by kernel_rfl) (fun _ _ _ h => h) ⟨by rfl, fun W => ?_⟩ (fun _ => hS0) ?_
      · go_simp
      simp only [Act.put, List.setIfInBounds_toArray, List.set_cons_zero, List.set_cons_succ]
      refine wpBut_take 9 (v := .int .i64 HI) rfl (by kernel_rfl) (fun _ _ _ h => h) ⟨by rfl, fun W hW => ?_⟩ hS0 ?_
      · obtain ⟨s0, s3, s4, s5⟩ := hW
        go_simp
      simp only [Act.put, List.setIfInBounds_toArray, List.set_cons_zero, List.set_cons_succ]
      refine wpBut_pure 10 (v := .pointer (some ⟨g, 4, none⟩)) rfl (by kernel_rfl) (fun _ _ _ h => h) ⟨by rfl, fun W => ?_⟩ (fun _ => hS0) ?_
      · go_simp
      simp only [Act.put, List.setIfInBounds_toArray, List.set_cons_zero, List.set_cons_succ]
      refine wpBut_take 11 (v := .int .i64 LO) rfl (by kernel_rfl) (fun _ _ _ h => h) ⟨by rfl, fun W hW => ?_⟩ hS0 ?_
      · obtain ⟨s0, s3, s4, s5⟩ := hW
        go_simp
      simp only [Act.put, List.setIfInBounds_toArray, List.set_cons_zero, List.set_cons_succ]
      refine wpBut_pure 12 (v := .int .i64 r3) rfl (by kernel_rfl) (fun _ _ _ h => h) ⟨by rfl, fun W => ?_⟩ (fun _ => hS0) ?_
      · go_simp
      simp only [Act.put, List.setIfInBounds_toArray, List.set_cons_zero, List.set_cons_succ]
      refine wpBut_pure 13 (v := .int .i64 X2) rfl (by kernel_rfl) (fun _ _ _ h => h) ⟨by rfl, fun W => ?_⟩ (fun _ => hS0) ?_
      · go_simp
      simp only [Act.put, List.setIfInBounds_toArray, List.set_cons_zero, List.set_cons_succ]
      refine wpBut_pure 14 (v := .int .i64 (X2 + 1)) rfl (by kernel_rfl) (fun _ _ _ h => h) ⟨by rfl, fun W => ?_⟩ (fun _ => hS0) ?_
      · go_simp
      simp only [Act.put, List.setIfInBounds_toArray, List.set_cons_zero, List.set_cons_succ]
      refine wpBut_call 15 (v := .int .i64 r9) rfl (by kernel_rfl) (fun _ _ _ h => h) ⟨by rfl, fun W hW => ⟨20, _, ?_, HA6.out W hW.1⟩⟩ hS0 ?_
      · go_simp
      simp only [Act.put, List.setIfInBounds_toArray, List.set_cons_zero, List.set_cons_succ]
      refine wpBut_pure 16 (v := .int .i64 (X1 + r9)) rfl (by kernel_rfl) (fun _ _ _ h => h) ⟨by rfl, fun W => ?_⟩ (fun _ => hS0) ?_
      · go_simp
      simp only [Act.put, List.setIfInBounds_toArray, List.set_cons_zero, List.set_cons_succ]
      refine wpBut_pure 17 (v := .pointer (some ⟨g, 2, none⟩)) rfl (by kernel_rfl) (fun _ _ _ h => h) ⟨by rfl, fun W => ?_⟩ (fun _ => hS0) ?_
      · go_simp
      simp only [Act.put, List.setIfInBounds_toArray, List.set_cons_zero, List.set_cons_succ]
      refine wpBut_seq 18 (g := 0) (by decide) (by decide) (by rfl) (by kernel_rfl) ?_
      simp only [List.drop_succ_cons, List.drop_zero]
      have kn := kg.drew.set_ 2 (.int .i64 (X1 + r9))
      have kn' : Blk (wr.setCell ⟨g, 2, none⟩ (.int .i64 (X1 + r9))).drew g 24 #[.string sd, .slice A7 k c7, .int .i64 (X1 + r9), .int .i64 N, .int .i64 LO, .int .i64 HI] := kn
      have d0 : (wr.setCell ⟨g, 2, none⟩ (.int .i64 (X1 + r9))).drew.cell? ⟨g, 0, none⟩ = some (.string sd) := kn'.at_ rfl
      have d1 : (wr.setCell ⟨g, 2, none⟩ (.int .i64 (X1 + r9))).drew.cell? ⟨g, 1, none⟩ = some (.slice A7 k c7) := kn'.at_ rfl
      have d2 : (wr.setCell ⟨g, 2, none⟩ (.int .i64 (X1 + r9))).drew.cell? ⟨g, 2, none⟩ = some (.int .i64 (X1 + r9)) := kn'.at_ rfl
      have d3 : (wr.setCell ⟨g, 2, none⟩ (.int .i64 (X1 + r9))).drew.cell? ⟨g, 3, none⟩ = some (.int .i64 N) := kn'.at_ rfl
      have d4 : (wr.setCell ⟨g, 2, none⟩ (.int .i64 (X1 + r9))).drew.cell? ⟨g, 4, none⟩ = some (.int .i64 LO) := kn'.at_ rfl
      have d5 : (wr.setCell ⟨g, 2, none⟩ (.int .i64 (X1 + r9))).drew.cell? ⟨g, 5, none⟩ = some (.int .i64 HI) := kn'.at_ rfl
      have kr' : Blk (wr.setCell ⟨g, 2, none⟩ (.int .i64 (X1 + r9))).drew w.heap.size 24 (spC ⟨#[]⟩ none 0 0 0 0 0 0) := (kr.far (by simp; omega) _).drew
      have kb' : Ok w (wr.setCell ⟨g, 2, none⟩ (.int .i64 (X1 + r9))).drew := Ok.drew ((show Below w.heap.size w wr from kb).setCell (by simp; omega) _)
      have ho' : (wr.setCell ⟨g, 2, none⟩ (.int .i64 (X1 + r9))).drew.ownsRow w.heap.size 3 1 (.slice A7 k c7) k (ints p) := own_far ho (own_ne_blk ho kg (by decide))
      have y0 : (wr.setCell ⟨g, 2, none⟩ (.int .i64 (X1 + r9))).drew.cell? ⟨w.heap.size, 0, none⟩ = some (.string ⟨#[]⟩) := kr'.at_ rfl
      have z0 : (wr.setCell ⟨g, 2, none⟩ (.int .i64 (X1 + r9))).drew.frozen? ⟨w.heap.size, 0, none⟩ = false := kr'.frozen 0
      have y1 : (wr.setCell ⟨g, 2, none⟩ (.int .i64 (X1 + r9))).drew.cell? ⟨w.heap.size, 1, none⟩ = some (.slice none 0 0) := kr'.at_ rfl
      have z1 : (wr.setCell ⟨g, 2, none⟩ (.int .i64 (X1 + r9))).drew.frozen? ⟨w.heap.size, 1, none⟩ = false := kr'.frozen 1
      have y2 : (wr.setCell ⟨g, 2, none⟩ (.int .i64 (X1 + r9))).drew.cell? ⟨w.heap.size, 2, none⟩ = some (.int .i64 0) := kr'.at_ rfl
      have z2 : (wr.setCell ⟨g, 2, none⟩ (.int .i64 (X1 + r9))).drew.frozen? ⟨w.heap.size, 2, none⟩ = false := kr'.frozen 2
      have y3 : (wr.setCell ⟨g, 2, none⟩ (.int .i64 (X1 + r9))).drew.cell? ⟨w.heap.size, 3, none⟩ = some (.int .i64 0) := kr'.at_ rfl
      have z3 : (wr.setCell ⟨g, 2, none⟩ (.int .i64 (X1 + r9))).drew.frozen? ⟨w.heap.size, 3, none⟩ = false := kr'.frozen 3
      have y4 : (wr.setCell ⟨g, 2, none⟩ (.int .i64 (X1 + r9))).drew.cell? ⟨w.heap.size, 4, none⟩ = some (.int .i64 0) := kr'.at_ rfl
      have z4 : (wr.setCell ⟨g, 2, none⟩ (.int .i64 (X1 + r9))).drew.frozen? ⟨w.heap.size, 4, none⟩ = false := kr'.frozen 4
      have y5 : (wr.setCell ⟨g, 2, none⟩ (.int .i64 (X1 + r9))).drew.cell? ⟨w.heap.size, 5, none⟩ = some (.int .i64 0) := kr'.at_ rfl
      have z5 : (wr.setCell ⟨g, 2, none⟩ (.int .i64 (X1 + r9))).drew.frozen? ⟨w.heap.size, 5, none⟩ = false := kr'.frozen 5
      clear hS0 c3 c4 c5 kg kr kb kn
      go_upto_region 8 with fail
      generalize (wr.setCell ⟨g, 2, none⟩ (.int .i64 (X1 + r9))).drew = w8 at *
      go_wp2_with fail
      have kf := (((((kr'.set_ 0 (.string sd)).set_ 1 (.slice A7 k c7)).set_ 2 (.int .i64 (X1 + r9))).set_ 3 (.int .i64 N)).set_ 4 (.int .i64 LO)).set_ 5 (.int .i64 HI)
      have hge : ∀ W' : World, W' = (((((w8.setCell ⟨w.heap.size, 0, none⟩ (.string sd)).setCell ⟨w.heap.size, 1, none⟩ (.slice A7 k c7)).setCell ⟨w.heap.size, 2, none⟩ (.int .i64 (X1 + r9))).setCell ⟨w.heap.size, 3, none⟩ (.int .i64 N)).setCell ⟨w.heap.size, 4, none⟩ (.int .i64 LO)).setCell ⟨w.heap.size, 5, none⟩ (.int .i64 HI) →
          Blk W' w.heap.size 24 (spC sd (A7) k c7 (X1 + r9) N LO HI) ∧ Ok w W' ∧ W'.ownsRow w.heap.size 3 1 (.slice A7 k c7) k (ints p) := by
        rintro W' rfl
        have hne := own_ne_blk ho' kr' (by decide)
        refine ⟨kf, ?_, ?_⟩
        · exact ((((((show Below w.heap.size w w8 from kb').setCell (Nat.le_refl _) _).setCell (Nat.le_refl _) _).setCell (Nat.le_refl _) _).setCell (Nat.le_refl _) _).setCell (Nat.le_refl _) _).setCell (Nat.le_refl _) _
        · exact own_far (own_far (own_far (own_far (own_far (own_far ho' hne) hne) hne) hne) hne) hne
      obtain ⟨e1, e2, e3⟩ := hge _ rfl
      refine ret_row (g := w.heap.size) (cs := spC sd A7 k c7 (X1 + r9) N LO HI) (t := 24) Tryd.results4 rfl e1 rfl Tryd.underlying24 info24 rfl ?_
      obtain ⟨f1, f2, f3, f4⟩ := HB.out
      have hrow := Reads.of_own e3
      have hNn : ((N.toNat : Nat) : Int) = N := by omega
      refine ⟨x, A7, k, c7, p, X1 + r9, N.toNat, LO, HI, by rw [HSD.out, hNn], hx.1, hx.2, rfl, f1, by omega, by omega, hp, hrow, ?_, ?_, e2⟩
      · rw [hNn, ← f3]; omega
      · rw [hNn, f4]; omega
end Go.Proofs.YtnionejefpnfoaaDoor
