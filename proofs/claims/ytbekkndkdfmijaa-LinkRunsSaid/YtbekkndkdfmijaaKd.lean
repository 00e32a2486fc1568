/- slices.Clone, slices.Grow, slices.Concat of bytes; the reference's Around, Few; sealed bytes. Conditions: the bytes are at most a million. -/
import Derived.Test.YtbekkndkdfmijaaKc
import Derived.Lib.SliceRun
set_option linter.unusedSimpArgs false
set_option linter.unusedVariables false
namespace Go.Proofs.Ytbekkndkdfmijaa
open Go.RowKit

theorem eql_nil (W : World) (A : Option Addr) (n c : Nat) : (binOp .eql 33 (.slice A n c) (.slice none 0 0)).run Try.prog W = .ok (.bool A.isNone) W := by
  exact Lib.run_eql_slice_nil W 33 5 A n c 0 0 Try.underlying33
set_option maxRecDepth 100000 in
set_option maxHeartbeats 2000000 in
theorem clone_any (A : Option Addr) (n c : Nat) (l : List UInt8) (w : World) (hl : Reads w w.heap.size 1 A n (bytesV l)) (hn : n ≤ 1000000) :
    Calls Try.prog 32 #[.slice A n c] w fun e W' => ∃ v, e = .returned v ∧ W'.ownsRow w.heap.size 5 1 v l.length (bytesV l) ∧ Below w.heap.size w W' := by
  obtain ⟨i0, hi, hz0, hz1, hz2⟩ := info_parts info_u8
  have el := hl.byte_len
  subst el
  have hq := fun W => eql_nil W A l.length c
  cases hA : A.isNone with
  | true =>
    rw [hA] at hq
    have hnil : bytesV l = [] := by
      obtain rfl : A = none := by simpa using hA
      rcases Nat.eq_zero_or_pos l.length with h0 | h0
      · exact List.eq_nil_of_length_eq_zero (by rw [bytesV_length]; exact h0)
      · obtain ⟨ad, h, _⟩ := hl.2 h0
        cases h
    have h0 : l.length = 0 := by rw [← bytesV_length, hnil]; rfl
    have HN := Lib.hid hnil
    have H0 := Lib.hid h0
    clear hnil h0
    go_enter Try.func32, Try.ntmps32
    go_wp2_with fail
    go_ret
    exact ⟨_, rfl, by rw [HN.out, H0.out]; exact ⟨by simp, Or.inl ⟨rfl, rfl⟩⟩, Below.refl _ w⟩
  | false =>
    rw [hA] at hq
    go_enter Try.func32, Try.ntmps32
    go_wp2_with (at_builtin; refine wpList_append_reads _ rfl _ _ 33 rfl w.heap.size 5 i0 (.int .u8 0) 1 1 Try.underlying33 hi hz0 hz1 hz2 rfl (by decide) _ _ _ rfl (own_new w 5 #[] _ (Nat.le_refl _) (by unfold maxLen; simp)) _ A l.length c (bytesV l) rfl (hl.alloc (Nat.le_refl _) _) (bytesV_one _) (by unfold maxLen; simp; omega) (by simp; omega) (by simp) ?_; intro v' w3 hown' hgrow)
    go_ret
    refine ⟨_, rfl, by simpa using hown', ?_⟩
    have hb : Below w.heap.size w (w.alloc (.cells #[] 5)) := (Below.refl _ w).alloc (Nat.le_refl _) _
    refine hb.grown hgrow (by simp) ?_
    intro k hk
    have hk2 : some w.heap.size = some k := hk
    injection hk2 with hk2
    omega
set_option maxRecDepth 100000 in
set_option maxHeartbeats 2000000 in
theorem grow_any (n : Nat) (w : World) (h0 : 0 < n) (hn : n ≤ 10000000) :
    Calls Try.prog 51 #[.slice none 0 0, .int .i64 (n : Int)] w fun e W' => ∃ v, e = .returned v ∧ W'.ownsRow w.heap.size 5 1 v 0 [] ∧ Below w.heap.size w W' := by
  obtain ⟨i0, hi, hz0, hz1, hz2⟩ := info_parts info_u8
  have hrz : ∀ ty, (Builtin.append_ #[33, 3] ty #[.slice none 0 0, .int .i64 (n : Int)]).run Try.prog w =
      .ok (.slice (some ⟨w.heap.size, 0, none⟩) n (grownCap w n 0 5)) (w.drew.alloc (.cells (Builtin.zeroCells (Value.int .u8 0).cells n ++ Builtin.zeroCells (Value.int .u8 0).cells (grownCap w n 0 5 - n)) 5)) := fun ty =>
    Lib.run_append_nil_zeros w 33 3 ty 5 i0 (.int .u8 0) .i64 .i64 Try.underlying33 Try.underlying3 hi hz0 n h0 (by omega) (by omega) (by rw [hz2]; omega)
  have hG := grownCap_ge w n 0 5
  have hG2 := grownCap_le_maxLen w n 0 5 (by unfold maxLen; omega)
  have hfin : (w.drew.alloc (.cells (Builtin.zeroCells (Value.int .u8 0).cells n ++ Builtin.zeroCells (Value.int .u8 0).cells (grownCap w n 0 5 - n)) 5)).ownsRow w.heap.size 5 1 (.slice (some ⟨w.heap.size, 0, none⟩) 0 (grownCap w n 0 5)) 0 [] := by
    refine ⟨by simp, .inr ⟨w.heap.size, _, _, rfl, Nat.le_refl _, heap_alloc_new w.drew _, Nat.zero_le _, hG2, ?_, by simp⟩⟩
    simp only [Array.size_append, size_zeroCells]
    have : (Value.int .u8 0).cells.size = 1 := rfl
    rw [this]
    omega
  have hbel : Below w.heap.size w (w.drew.alloc (.cells (Builtin.zeroCells (Value.int .u8 0).cells n ++ Builtin.zeroCells (Value.int .u8 0).cells (grownCap w n 0 5 - n)) 5)) := ((Below.refl _ w).drew).alloc (Nat.le_refl _) _
  have HF := Lib.hid hfin
  have HB := Lib.hid hbel
  clear hfin hbel
  unfold maxLen at hG2
  have h1 : ¬ ((n : Int) < 0) := by omega
  generalize w.drew.alloc (.cells (Builtin.zeroCells (Value.int .u8 0).cells n ++ Builtin.zeroCells (Value.int .u8 0).cells (grownCap w n 0 5 - n)) 5) = w1 at *
  generalize grownCap w n 0 5 = G at *
  go_enter Try.func51, Try.ntmps51
  go_wp2_with (at_builtin; refine Lib.wpList_append_run _ rfl _ _ _ _ rfl _ _ rfl rfl _ _ (hrz _) ?_)
  go_ret
  exact ⟨_, rfl, HF.out, HB.out⟩
/-- the first j of two parts -/
def pre2 (l r : List UInt8) (j : Nat) : List UInt8 := if j = 0 then [] else if j = 1 then l else l ++ r
set_option maxRecDepth 100000 in
set_option maxHeartbeats 4000000 in
theorem concat_any (g : Nat) (A B : Option Addr) (n m c d : Nat) (l r : List UInt8) (w : World) (hg : Blk w g 33 #[.slice A n c, .slice B m d]) (hl : Reads w w.heap.size 1 A n (bytesV l)) (hr : Reads w w.heap.size 1 B m (bytesV r))
    (h0 : 0 < n + m) (hn : n ≤ 1000000) (hm : m ≤ 1000000) :
    Calls Try.prog 42 #[.slice (some ⟨g, 0, none⟩) 2 2] w fun e W' => ∃ v, e = .returned v ∧ W'.ownsRow w.heap.size 5 1 v (l ++ r).length (bytesV (l ++ r)) ∧ Below w.heap.size w W' := by
  obtain ⟨i0, hi, hz0, hz1, hz2⟩ := info_parts info_u8
  have el := hl.byte_len
  have er := hr.byte_len
  go_enter Try.func42, Try.ntmps42
  go_wp2_with fail
  go_loopw [3, 11] (fun s i wr => ∃ j : Nat, j ≤ 2 ∧ s = .int .i64 ((pre2 l r j).length : Int) ∧ i = .int .i64 (j : Int) ∧ Drawn w wr) (fun _ i _ => 2 - (intOf i).toNat)
  case atStart => exact ⟨0, by omega, rfl, rfl, 0, rfl⟩
  case round =>
    obtain ⟨j, hj, rfl, rfl, q, rfl⟩ := hrel
    have c0 : (w.drewN q).cell? ⟨g, 0, none⟩ = some (.slice A n c) := (hg.drewN q).at_ rfl
    have c1 : (w.drewN q).cell? ⟨g, 1, none⟩ = some (.slice B m d) := (hg.drewN q).at_ rfl
    have : j = 0 ∨ j = 1 ∨ j = 2 := by omega
    rcases this with rfl | rfl | rfl
    · have e0 : (pre2 l r 0).length = 0 := rfl
      have e1 : (pre2 l r 1).length = n := el
      rw [e0]
      have hn0 : ¬ (n : Int) < 0 := by omega
      go_wp2_with fail
      exact ⟨⟨1, by omega, by rw [e1], rfl, _, rfl⟩, by simp [intOf]⟩
    · have e1 : (pre2 l r 1).length = n := el
      have e2 : (pre2 l r 2).length = n + m := by show (l ++ r).length = _; rw [List.length_append]; omega
      rw [e1]
      have hn0 : ¬ (n : Int) + (m : Int) < 0 := by omega
      go_wp2_with fail
      exact ⟨⟨2, by omega, by rw [e2]; go_num, rfl, _, rfl⟩, by simp [intOf]⟩
    · have e2 : (pre2 l r 2).length = n + m := by show (l ++ r).length = _; rw [List.length_append]; omega
      rw [e2]
      have hb0 := (Below.refl w.heap.size w)
      go_wp2_with fail
      refine (grow_any (n + m) (w.drewN q) h0 (by omega)).mono ?_
      rintro E w1 ⟨v, rfl, ho, hb⟩
      have hb1 : Below w.heap.size w w1 := (below_drewN' (Below.refl _ w) q).trans hb
      clear hb hb0 c0 c1
      go_wp2_with fail
      go_loopw [6, 27] (fun v i wr => ∃ j : Nat, j ≤ 2 ∧ i = .int .i64 (j : Int) ∧ wr.ownsRow w.heap.size 5 1 v (pre2 l r j).length (bytesV (pre2 l r j)) ∧ Below w.heap.size w wr) (fun _ i _ => 2 - (intOf i).toNat)
      case atStart => exact ⟨0, by omega, rfl, ho, hb1⟩
      case round =>
        clear ho hb1
        obtain ⟨j, hj, rfl, ho, hb⟩ := hrel
        have hgw := hg.below hb hg.lt
        have c0 : wr.cell? ⟨g, 0, none⟩ = some (.slice A n c) := hgw.at_ rfl
        have c1 : wr.cell? ⟨g, 1, none⟩ = some (.slice B m d) := hgw.at_ rfl
        have : j = 0 ∨ j = 1 ∨ j = 2 := by omega
        rcases this with rfl | rfl | rfl
        · go_wp2_with (at_builtin; refine wpList_append_reads _ rfl _ _ 33 rfl w.heap.size 5 i0 (.int .u8 0) 1 1 Try.underlying33 hi hz0 hz1 hz2 rfl (by decide) _ _ _ rfl ho _ A n c (bytesV l) rfl (hl.below hb) (bytesV_one _) (by unfold maxLen; simp [pre2]; omega) (by simp [pre2]; omega) hb.size ?_; intro v' w3 hown' hgrow)
          have h3 : w3.ownsRow w.heap.size 5 1 v' (pre2 l r 1).length (bytesV (pre2 l r 1)) := by
            have e : (pre2 l r 1).length = (pre2 l r 0).length + n := by show l.length = 0 + n; omega
            rw [e]; exact hown'
          exact ⟨⟨1, by omega, rfl, h3, hb.grown hgrow hb.size (fun k e => (ho.lt k e).1)⟩, by simp [intOf]⟩
        · have hlen : (pre2 l r 1).length = n := el
          go_wp2_with (at_builtin; refine wpList_append_reads _ rfl _ _ 33 rfl w.heap.size 5 i0 (.int .u8 0) 1 1 Try.underlying33 hi hz0 hz1 hz2 rfl (by decide) _ _ _ rfl ho _ B m d (bytesV r) rfl (hr.below hb) (bytesV_one _) (by unfold maxLen; omega) (by omega) hb.size ?_; intro v' w3 hown' hgrow)
          have h3 : w3.ownsRow w.heap.size 5 1 v' (pre2 l r 2).length (bytesV (pre2 l r 2)) := by
            have e : (pre2 l r 2).length = (pre2 l r 1).length + m := by show (l ++ r).length = l.length + m; rw [List.length_append]; omega
            have e2 : bytesV (pre2 l r 2) = bytesV (pre2 l r 1) ++ bytesV r := bytesV_append l r
            rw [e, e2]; exact hown'
          exact ⟨⟨2, by omega, rfl, h3, hb.grown hgrow hb.size (fun k e => (ho.lt k e).1)⟩, by simp [intOf]⟩
        · go_wp2_with fail
          go_ret
          exact ⟨_, rfl, ho, hb⟩
end Go.Proofs.Ytbekkndkdfmijaa
