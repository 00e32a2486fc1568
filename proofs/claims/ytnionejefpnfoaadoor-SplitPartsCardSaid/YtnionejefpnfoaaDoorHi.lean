/- slices.Clone of a list of numbers. Condition: the list is short. -/
import Derived.Test.YtnionejefpnfoaaDoorHg
import Derived.Lib.SliceRun
namespace Go.Proofs.YtnionejefpnfoaaDoor
open Go.RowKit

theorem info_i64 : (Tryd.prog.info? 3).map (fun i => (i.zero, i.size, i.bytes)) = some (some (.int .i64 0), 1, 8) := by kernel_rfl
theorem ints_one (l : List Int) : ∀ u ∈ ints l, u.oneCell' = true := by
  intro u hu
  obtain ⟨x, -, rfl⟩ := List.mem_map.1 hu
  rfl
theorem eql_nil (W : World) (A : Option Addr) (n c : Nat) : (binOp .eql 22 (.slice A n c) (.slice none 0 0)).run Tryd.prog W = .ok (.bool A.isNone) W := by
  exact Lib.run_eql_slice_nil W 22 3 A n c 0 0 Tryd.underlying22
set_option maxRecDepth 100000 in
set_option maxHeartbeats 2000000 in
theorem clone_any (A : Option Addr) (n c : Nat) (l : List Int) (w : World) (hl : Reads w w.heap.size 1 A n (ints l)) (hn : n ≤ 1000000) :
    Calls Tryd.prog 36 #[.slice A n c] w fun e W' => ∃ v, e = .returned v ∧ W'.ownsRow w.heap.size 3 1 v l.length (ints l) ∧ Below w.heap.size w W' := by
  obtain ⟨i0, hi, hz0, hz1, hz2⟩ := info_parts info_i64
  have el := hl.int_len
  subst el
  have hq := fun W => eql_nil W A l.length c
  cases hA : A.isNone with
  | true =>
    rw [hA] at hq
    have hnil : ints l = [] := by
      obtain rfl : A = none := by simpa using hA
      rcases Nat.eq_zero_or_pos l.length with h0 | h0
      · exact List.eq_nil_of_length_eq_zero (by rw [ints_length]; exact h0)
      · obtain ⟨ad, h, _⟩ := hl.2 h0
        cases h
    have h0 : l.length = 0 := by rw [← ints_length, hnil]; rfl
    have HN := Lib.hid hnil
    have H0 := Lib.hid h0
    clear hnil h0
    go_enter Tryd.func36, Tryd.ntmps36
    go_wp2_with fail
    go_ret
    exact ⟨_, rfl, by rw [HN.out, H0.out]; exact ⟨by simp, Or.inl ⟨rfl, rfl⟩⟩, Below.refl _ w⟩
  | false =>
    rw [hA] at hq
    go_enter Tryd.func36, Tryd.ntmps36
    go_wp2_with (at_builtin; refine wpList_append_reads _ rfl _ _ 22 rfl w.heap.size 3 i0 (.int .i64 0) 1 8 Tryd.underlying22 hi hz0 hz1 hz2 rfl (by decide) _ _ _ rfl (own_new w 3 #[] _ (Nat.le_refl _) (by unfold maxLen; simp)) _ A l.length c (ints l) rfl (hl.alloc (Nat.le_refl _) _) (ints_one _) (by unfold maxLen; simp; omega) (by simp; omega) (by simp) ?_; intro v' w3 hown' hgrow)
    go_ret
    refine ⟨_, rfl, by simpa using hown', ?_⟩
    have hb : Below w.heap.size w (w.alloc (.cells #[] 3)) := (Below.refl _ w).alloc (Nat.le_refl _) _
    refine hb.grown hgrow (by simp) ?_
    intro k hk
    have hk2 : some w.heap.size = some k := hk
    injection hk2 with hk2
    omega
end Go.Proofs.YtnionejefpnfoaaDoor
