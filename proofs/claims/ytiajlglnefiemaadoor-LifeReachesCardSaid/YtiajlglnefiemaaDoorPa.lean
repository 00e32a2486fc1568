/- The walks of package perm: the network's round and its closures. Conditions: the round constants lie in their variable; seed and path are short; the side is a power of two, small. -/
import Derived.Test.YtiajlglnefiemaaDoorHj
import Derived.Test.YtiajlglnefiemaaDoorHq
set_option linter.unusedSimpArgs false
set_option linter.unusedVariables false
namespace Go.Proofs.YtiajlglnefiemaaDoor
open Go.RowKit

/-- what draws ask of the world -/
structure Net (s : ByteArray) (A : Option Addr) (n : Nat) (l : List Int) (w : World) : Prop where
  reads : Reads w w.heap.size 1 A n (ints l)
  nums : ∀ x ∈ l, I64 x
  short : n ≤ 10000
  text : s.size ≤ 100000
  consts : Consts w
  pos : 0 < w.heap.size
section
variable {s : ByteArray} {A : Option Addr} {n : Nat} {l : List Int} {w w' : World}
theorem Net.below (h : Net s A n l w) (hb : Below w.heap.size w w') : Net s A n l w' :=
  ⟨(h.reads.below hb).more hb.size, h.nums, h.short, h.text, h.consts.below (hb.mono h.pos), Nat.lt_of_lt_of_le h.pos hb.size⟩
theorem Net.alloc (h : Net s A n l w) (o : Obj) : Net s A n l (w.alloc o) := h.below ((Below.refl _ w).alloc (Nat.le_refl _) o)
theorem Net.drew (h : Net s A n l w) : Net s A n l w.drew := h.below (Below.refl _ w).drew
end
/-- THE WORD of a round -/
def rnd (s : ByteArray) (l : List Int) (B : Nat) (k r : Nat) : Nat := wordN s l (65536 * (k : Int) + (r : Int)) % B
def netCells (s : ByteArray) (A : Option Addr) (n c : Nat) (B : Nat) : Array Value := #[.string s, .slice A n c, .int .i64 (B : Int)]
theorem word_net {s : ByteArray} {A : Option Addr} {n c : Nat} {l : List Int} {w : World} (h : Net s A n l w) (k r : Nat) (hk : k ≤ 3) (hr : r < 65536) :
    Calls Tryd.prog 22 #[.string s, .slice A n c, .int .i64 (65536 * (k : Int) + (r : Int))] w fun e W' => e = .returned (.int .i64 (wordN s l (65536 * (k : Int) + (r : Int)) : Int)) ∧ Below w.heap.size w W' :=
  word_any s A n c l _ w h.reads h.nums ⟨by omega, by omega⟩ h.short h.text h.consts h.pos

set_option maxRecDepth 100000 in
set_option maxHeartbeats 2000000 in
theorem round_any {s : ByteArray} {A : Option Addr} {n c : Nat} {l : List Int} {w : World} (h : Net s A n l w) (B k r : Nat) (hB0 : 0 < B) (hB : B ≤ 65536) (hk : k ≤ 3) (hr : r < 65536) :
    Calls Tryd.prog 79 #[.agg #[.string s, .slice A n c, .int .i64 (B : Int)], .int .i64 (k : Int), .int .i64 (r : Int)] w fun e W' => e = .returned (.int .i64 (rnd s l B k r : Int)) ∧ Below w.heap.size w W' := by
  have hB1 : (0 : Int) < (B : Int) := by omega
  have hBne : (B : Int) ≠ 0 := by omega
  obtain ⟨X, hX⟩ : ∃ X, X = wordN s l (65536 * (k : Int) + (r : Int)) := ⟨_, rfl⟩
  have hX2 : X < 281474976710656 := by rw [hX]; exact wordN_lt _ _ _
  have hR : rnd s l B k r = X % B := by rw [hX]; rfl
  rw [hR]
  have HX := Lib.hid hX
  clear hX hR
  go_enter Tryd.func79, Tryd.ntmps79
  go_wp2_with fail
  have nw := h.alloc (.cells #[.string s, .slice A n c, .int .i64 (B : Int)] 67)
  have bw : Below w.heap.size w (w.alloc (.cells #[.string s, .slice A n c, .int .i64 (B : Int)] 67)) := (Below.refl _ w).alloc (Nat.le_refl _) _
  have kw : Blk (w.alloc (.cells #[.string s, .slice A n c, .int .i64 (B : Int)] 67)) w.heap.size 67 #[.string s, .slice A n c, .int .i64 (B : Int)] := Blk.new w 67 _
  have hwr : IntKind.i64.wrap (65536 * (k : Int)) = 65536 * (k : Int) := by simp [IntKind.wrap, IntKind.signed, IntKind.bits]; omega
  have hwr2 : IntKind.i64.wrap (65536 * (k : Int) + (r : Int)) = 65536 * (k : Int) + (r : Int) := by simp [IntKind.wrap, IntKind.signed, IntKind.bits]; omega
  have hBn : B ≠ 0 := by omega
  have htm : (X : Int).tmod (B : Int) = (X : Int) % (B : Int) := Int.tmod_eq_emod_of_nonneg (by omega)
  generalize hwn : w.alloc (.cells #[.string s, .slice A n c, .int .i64 (B : Int)] 67) = wn at *
  clear hwn
  go_region_held3 (fun W => W.cell? ⟨w.heap.size, 0, none⟩ = some (.string s) ∧ W.cell? ⟨w.heap.size, 1, none⟩ = some (.slice A n c) ∧ W.cell? ⟨w.heap.size, 2, none⟩ = some (.int .i64 (B : Int)))
    (first | exact ⟨kw.at_ rfl, kw.at_ rfl, kw.at_ rfl⟩ | exact ⟨k1.at_ rfl, k1.at_ rfl, k1.at_ rfl⟩)
    (first | (go_at_call 22; refine (word_net nw.drew k r hk hr).mono ?_; rw [← HX.out]; rintro e w1 ⟨rfl, b1⟩; have k1 := kw.drew.thru b1; have b2 := bw.drew.trans (b1.mono bw.size)))
  go_wp2_with fail
  go_ret
  exact ⟨ret_i64 (Int.natCast_emod X B).symm, b2⟩

theorem net_xor (a b B : Nat) (ha : a < 65536) (hb : b < 65536) : bits .xor .i64 (a : Int) (b : Int) = ((a ^^^ b : Nat) : Int) := i64_xor_nat a b (by omega) (by omega)
set_option maxRecDepth 100000 in
set_option maxHeartbeats 2000000 in
theorem step_any {s : ByteArray} {A : Option Addr} {n c : Nat} {l : List Int} {w : World} (h : Net s A n l w) (e k x y gr gl gn : Nat) (he : e ≤ 8) (hk : k ≤ 3) (hx : x < 2 ^ e) (hy : y < 2 ^ e)
    (hL : Blk w gl 3 #[.int .i64 (x : Int)]) (hR : Blk w gr 3 #[.int .i64 (y : Int)]) (hN : Blk w gn 67 (netCells s A n c (2 ^ e))) (hne : gl ≠ gr) :
    Calls Tryd.prog 78 #[.int .i64 (k : Int), .pointer (some ⟨gr, 0, none⟩), .pointer (some ⟨gl, 0, none⟩), .pointer (some ⟨gn, 0, none⟩)] w fun E W' => (∃ v, E = .returned v) ∧
      Blk W' gl 3 #[.int .i64 ((stp (rnd s l (2 ^ e)) k (x, y)).1 : Int)] ∧ Blk W' gr 3 #[.int .i64 ((stp (rnd s l (2 ^ e)) k (x, y)).2 : Int)] ∧ Blk W' gn 67 (netCells s A n c (2 ^ e)) ∧ (∀ B, B ≤ gl → B ≤ gr → B ≤ w.heap.size → Below B w W') := by
  have hB0 : 0 < 2 ^ e := Nat.two_pow_pos e
  have hB : 2 ^ e ≤ 65536 := Nat.le_trans (Nat.pow_le_pow_right (by omega) he) (by decide)
  obtain ⟨X, hX⟩ : ∃ X, X = rnd s l (2 ^ e) k y := ⟨_, rfl⟩
  have hX2 : X < 2 ^ e := by rw [hX]; exact Nat.mod_lt _ hB0
  have hxo := net_xor x X 0 (by omega) (by omega)
  have hrd := fun (W : World) (hW : Net s A n l W) => round_any (c := c) hW (2 ^ e) k y hB0 hB hk (by omega)
  rw [← hX] at hrd
  simp only [stp, ← hX]
  clear hX
  unfold netCells at hN ⊢
  generalize 2 ^ e = B at *
  have f1 := hL.frozen 0
  go_enter Tryd.func78, Tryd.ntmps78
  have S0 : w.drew.cell? ⟨gl, 0, none⟩ = some (.int .i64 (x : Int)) ∧ w.drew.cell? ⟨gr, 0, none⟩ = some (.int .i64 (y : Int)) ∧ w.drew.cell? ⟨gn, 0, none⟩ = some (.string s) ∧ w.drew.cell? ⟨gn, 1, none⟩ = some (.slice A n c) ∧ w.drew.cell? ⟨gn, 2, none⟩ = some (.int .i64 (B : Int)) := ⟨hL.drew.at_ rfl, hR.drew.at_ rfl, hN.drew.at_ rfl, hN.drew.at_ rfl, hN.drew.at_ rfl⟩
  refine wp_region_but (fun W => W.cell? ⟨gl, 0, none⟩ = some (.int .i64 (x : Int)) ∧ W.cell? ⟨gr, 0, none⟩ = some (.int .i64 (y : Int)) ∧ W.cell? ⟨gn, 0, none⟩ = some (.string s) ∧ W.cell? ⟨gn, 1, none⟩ = some (.slice A n c) ∧ W.cell? ⟨gn, 2, none⟩ = some (.int .i64 (B : Int))) [7, 8] (by kernel_rfl) S0 fun hS0 => ?_
  refine wpBut_take 0 (v := .int .i64 (y : Int)) rfl (by kernel_rfl) (fun _ _ _ h => h) ⟨by rfl, fun W hW => ?_⟩ hS0 ?_
  · obtain ⟨s1, s2, s3, s4, s5⟩ := hW
    go_simp
  simp only [Act.put, List.setIfInBounds_toArray, List.set_cons_zero, List.set_cons_succ]
  refine wpBut_take 1 (v := .int .i64 (x : Int)) rfl (by kernel_rfl) (fun _ _ _ h => h) ⟨by rfl, fun W hW => ?_⟩ hS0 ?_
  · obtain ⟨s1, s2, s3, s4, s5⟩ := hW
    go_simp
  simp only [Act.put, List.setIfInBounds_toArray, List.set_cons_zero, List.set_cons_succ]
  refine wpBut_take 2 (v := .agg #[.string s, .slice A n c, .int .i64 (B : Int)]) rfl (by kernel_rfl) (fun _ _ _ h => h) ⟨by rfl, fun W hW => ?_⟩ hS0 ?_
  · obtain ⟨s1, s2, s3, s4, s5⟩ := hW
    go_simp
  simp only [Act.put, List.setIfInBounds_toArray, List.set_cons_zero, List.set_cons_succ]
  refine wpBut_take 3 (v := .int .i64 (k : Int)) rfl (by kernel_rfl) (fun _ _ _ h => h) ⟨by rfl, fun W hW => ?_⟩ hS0 ?_
  · obtain ⟨s1, s2, s3, s4, s5⟩ := hW
    go_simp
  simp only [Act.put, List.setIfInBounds_toArray, List.set_cons_zero, List.set_cons_succ]
  refine wpBut_take 4 (v := .int .i64 (y : Int)) rfl (by kernel_rfl) (fun _ _ _ h => h) ⟨by rfl, fun W hW => ?_⟩ hS0 ?_
  · obtain ⟨s1, s2, s3, s4, s5⟩ := hW
    go_simp
  simp only [Act.put, List.setIfInBounds_toArray, List.set_cons_zero, List.set_cons_succ]
  refine wpBut_one 5 rfl (by kernel_rfl) fun K hK => ?_
  go_simp
  go_at_call 79
  refine (hrd _ h.drew).mono ?_
  rintro E w1 ⟨rfl, b1⟩
  have L1 := hL.drew.thru b1
  have R1 := hR.drew.thru b1
  have N1 := hN.drew.thru b1
  have f2 := L1.frozen 0
  have f3 := R1.frozen 0
  go_simp
  refine hK.out _ _ ⟨L1.at_ rfl, R1.at_ rfl, N1.at_ rfl, N1.at_ rfl, N1.at_ rfl⟩ fun hS1 => ?_
  clear hK K
  refine wpBut_pure 6 (v := .int .i64 ((x ^^^ X : Nat) : Int)) rfl (by kernel_rfl) (fun _ _ _ h => h) ⟨by rfl, fun W => ?_⟩ (fun _ => hS1) ?_
  · go_simp
  simp only [Act.put, List.setIfInBounds_toArray, List.set_cons_zero, List.set_cons_succ]
  refine wpBut_seq 7 (g := 1) (by decide) (by decide) (by rfl) (by kernel_rfl) ?_
  simp only [List.drop_succ_cons, List.drop_zero]
  go_wp2_with fail
  go_end0
  have n1 : gn ≠ gl := hN.ne_ hL (by decide)
  have n2 : gn ≠ gr := hN.ne_ hR (by decide)
  exact ⟨⟨_, rfl⟩, (L1.set_ 0 _).far hne _, (R1.far (Ne.symm hne) _).set_ 0 _, (N1.far n1 _).far n2 _, fun b h1 h2 h3 => (((Below.refl b w).drew.trans (b1.mono h3)).setCell h1 _).setCell h2 _⟩
set_option maxRecDepth 100000 in
set_option maxHeartbeats 2000000 in
theorem unstep_any {s : ByteArray} {A : Option Addr} {n c : Nat} {l : List Int} {w : World} (h : Net s A n l w) (e k x y gr gl gn : Nat) (he : e ≤ 8) (hk : k ≤ 3) (hx : x < 2 ^ e) (hy : y < 2 ^ e)
    (hL : Blk w gl 3 #[.int .i64 (x : Int)]) (hR : Blk w gr 3 #[.int .i64 (y : Int)]) (hN : Blk w gn 67 (netCells s A n c (2 ^ e))) (hne : gl ≠ gr) :
    Calls Tryd.prog 80 #[.int .i64 (k : Int), .pointer (some ⟨gr, 0, none⟩), .pointer (some ⟨gn, 0, none⟩), .pointer (some ⟨gl, 0, none⟩)] w fun E W' => (∃ v, E = .returned v) ∧
      Blk W' gl 3 #[.int .i64 ((unstp (rnd s l (2 ^ e)) k (x, y)).1 : Int)] ∧ Blk W' gr 3 #[.int .i64 ((unstp (rnd s l (2 ^ e)) k (x, y)).2 : Int)] ∧ Blk W' gn 67 (netCells s A n c (2 ^ e)) ∧ (∀ B, B ≤ gl → B ≤ gr → B ≤ w.heap.size → Below B w W') := by
  have hB0 : 0 < 2 ^ e := Nat.two_pow_pos e
  have hB : 2 ^ e ≤ 65536 := Nat.le_trans (Nat.pow_le_pow_right (by omega) he) (by decide)
  obtain ⟨X, hX⟩ : ∃ X, X = rnd s l (2 ^ e) k x := ⟨_, rfl⟩
  have hX2 : X < 2 ^ e := by rw [hX]; exact Nat.mod_lt _ hB0
  have hxo := net_xor y X 0 (by omega) (by omega)
  have hrd := fun (W : World) (hW : Net s A n l W) => round_any (c := c) hW (2 ^ e) k x hB0 hB hk (by omega)
  rw [← hX] at hrd
  simp only [unstp, ← hX]
  clear hX
  unfold netCells at hN ⊢
  generalize 2 ^ e = B at *
  have f1 := hL.frozen 0
  go_enter Tryd.func80, Tryd.ntmps80
  have S0 : w.drew.cell? ⟨gl, 0, none⟩ = some (.int .i64 (x : Int)) ∧ w.drew.cell? ⟨gr, 0, none⟩ = some (.int .i64 (y : Int)) ∧ w.drew.cell? ⟨gn, 0, none⟩ = some (.string s) ∧ w.drew.cell? ⟨gn, 1, none⟩ = some (.slice A n c) ∧ w.drew.cell? ⟨gn, 2, none⟩ = some (.int .i64 (B : Int)) := ⟨hL.drew.at_ rfl, hR.drew.at_ rfl, hN.drew.at_ rfl, hN.drew.at_ rfl, hN.drew.at_ rfl⟩
  refine wp_region_but (fun W => W.cell? ⟨gl, 0, none⟩ = some (.int .i64 (x : Int)) ∧ W.cell? ⟨gr, 0, none⟩ = some (.int .i64 (y : Int)) ∧ W.cell? ⟨gn, 0, none⟩ = some (.string s) ∧ W.cell? ⟨gn, 1, none⟩ = some (.slice A n c) ∧ W.cell? ⟨gn, 2, none⟩ = some (.int .i64 (B : Int))) [7, 8] (by kernel_rfl) S0 fun hS0 => ?_
  refine wpBut_take 0 (v := .int .i64 (y : Int)) rfl (by kernel_rfl) (fun _ _ _ h => h) ⟨by rfl, fun W hW => ?_⟩ hS0 ?_
  · obtain ⟨s1, s2, s3, s4, s5⟩ := hW
    go_simp
  simp only [Act.put, List.setIfInBounds_toArray, List.set_cons_zero, List.set_cons_succ]
  refine wpBut_take 1 (v := .agg #[.string s, .slice A n c, .int .i64 (B : Int)]) rfl (by kernel_rfl) (fun _ _ _ h => h) ⟨by rfl, fun W hW => ?_⟩ hS0 ?_
  · obtain ⟨s1, s2, s3, s4, s5⟩ := hW
    go_simp
  simp only [Act.put, List.setIfInBounds_toArray, List.set_cons_zero, List.set_cons_succ]
  refine wpBut_take 2 (v := .int .i64 (k : Int)) rfl (by kernel_rfl) (fun _ _ _ h => h) ⟨by rfl, fun W hW => ?_⟩ hS0 ?_
  · obtain ⟨s1, s2, s3, s4, s5⟩ := hW
    go_simp
  simp only [Act.put, List.setIfInBounds_toArray, List.set_cons_zero, List.set_cons_succ]
  refine wpBut_take 3 (v := .int .i64 (x : Int)) rfl (by kernel_rfl) (fun _ _ _ h => h) ⟨by rfl, fun W hW => ?_⟩ hS0 ?_
  · obtain ⟨s1, s2, s3, s4, s5⟩ := hW
    go_simp
  simp only [Act.put, List.setIfInBounds_toArray, List.set_cons_zero, List.set_cons_succ]
  refine wpBut_take 6 (v := .int .i64 (x : Int)) rfl (by kernel_rfl) (fun _ _ _ h => h) ⟨by rfl, fun W hW => ?_⟩ hS0 ?_
  · obtain ⟨s1, s2, s3, s4, s5⟩ := hW
    go_simp
  simp only [Act.put, List.setIfInBounds_toArray, List.set_cons_zero, List.set_cons_succ]
  refine wpBut_one 4 rfl (by kernel_rfl) fun K hK => ?_
  go_simp
  go_at_call 79
  refine (hrd _ h.drew).mono ?_
  rintro E w1 ⟨rfl, b1⟩
  have L1 := hL.drew.thru b1
  have R1 := hR.drew.thru b1
  have N1 := hN.drew.thru b1
  have f2 := L1.frozen 0
  have f3 := R1.frozen 0
  go_simp
  refine hK.out _ _ ⟨L1.at_ rfl, R1.at_ rfl, N1.at_ rfl, N1.at_ rfl, N1.at_ rfl⟩ fun hS1 => ?_
  clear hK K
  refine wpBut_pure 5 (v := .int .i64 ((y ^^^ X : Nat) : Int)) rfl (by kernel_rfl) (fun _ _ _ h => h) ⟨by rfl, fun W => ?_⟩ (fun _ => hS1) ?_
  · go_simp
  simp only [Act.put, List.setIfInBounds_toArray, List.set_cons_zero, List.set_cons_succ]
  refine wpBut_seq 7 (g := 1) (by decide) (by decide) (by rfl) (by kernel_rfl) ?_
  simp only [List.drop_succ_cons, List.drop_zero]
  go_wp2_with fail
  go_end0
  have n1 : gn ≠ gl := hN.ne_ hL (by decide)
  have n2 : gn ≠ gr := hN.ne_ hR (by decide)
  exact ⟨⟨_, rfl⟩, (L1.set_ 0 _).far hne _, (R1.far (Ne.symm hne) _).set_ 0 _, (N1.far n1 _).far n2 _, fun b h1 h2 h3 => (((Below.refl b w).drew.trans (b1.mono h3)).setCell h1 _).setCell h2 _⟩
end Go.Proofs.YtiajlglnefiemaaDoor
