/- What the package and the reference answer alike of a bent split. Conditions: the ranges that the theorems state. -/
import Derived.Test.YtnionejefpnfoaaDoorVu
set_option linter.unusedSimpArgs false
set_option linter.unusedVariables false
namespace Go.Proofs.YtnionejefpnfoaaDoor
open Go.RowKit Go.Shelf Go

/-- a bent split, read in every world behind w0 -/
structure El (w0 : World) (s : ByteArray) (A : Option Addr) (n c : Nat) (l : List Int) (T N lo hi : Int) : Prop where
  rn : ∀ W, Ok w0 W → RN s A n l W
  num : SNum s n T N lo hi
  cls : Cls 2 s l N
  len : n = l.length
/-- all that a valid bent split gives -/
theorem El.good {w0 : World} {s : ByteArray} {A : Option Addr} {n c : Nat} {l : List Int} {T N lo hi : Int} (h : El w0 s A n c l T N lo hi) (hv : vS s.size n T N lo hi = 0) :
    ∃ (m : Nat) (D : Nat → Nat → Int → Int) (I : Nat → Nat → Int → Prop), N = (m : Int) ∧ SOk s n T (m : Int) lo hi ∧ Halved s A n c l T (m : Int) lo hi D I ∧ RHalved s A n c l T (m : Int) lo hi D I ∧ I 0 m T ∧ (∀ a m t, I a m t → -68719476736 ≤ t ∧ t ≤ 68719476736) := by
  have hz := vS_zero hv
  have hlen := h.len
  obtain ⟨M, k1, k2, k3⟩ := cls_ok h.cls hz.text (by have := hz.path; omega) hz.n1
  have hM := seed_range k1
  have hN : N = ((N.toNat : Nat) : Int) := by have := hz.n0; omega
  have b0 := hz.lo0
  have b1 := hz.le
  have b2 := hz.hi1
  refine ⟨N.toNat, leftV s l lo hi, BentI M lo hi, hN, by rw [← hN]; exact hz, bent_halved k1 k2 b0 b1 b2 A n c hz.text hz.path T _, bent_rhalved k1 k2 b0 b1 b2 A n c hz.text hz.path T _, bent_root (by omega) hM.1 hM.2 (by rw [← hN]; exact hz.t0) (by rw [← hN]; exact hz.t1), fun a m t hI => bent_bound b0 b2 hI⟩
theorem vS_err {sz n : Nat} {T N lo hi : Int} (h : vS sz n T N lo hi ≠ 0) : vS sz n T N lo hi = 1 ∨ vS sz n T N lo hi = 4 ∨ vS sz n T N lo hi = 5 := by
  rcases vS_vals sz n T N lo hi with e | e | e | e
  · exact absurd e h
  · exact .inl e
  · exact .inr (.inl e)
  · exact .inr (.inr e)
section
variable {w0 : World} {s : ByteArray} {A : Option Addr} {n c : Nat} {l : List Int} {T N lo hi : Int} (h : El w0 s A n c l T N lo hi)
include h
theorem el_valid : ∃ e, (∀ W, Ok w0 W → Calls Tryd.prog 7 #[spV s A n c T N lo hi] W fun E W' => E = .returned (.int .i64 e) ∧ Below W.heap.size W W') ∧ (∀ W, Ok w0 W → Calls Tryd.prog 8 #[spV s A n c T N lo hi] W fun E W' => E = .returned (.int .i64 e) ∧ Below W.heap.size W W') :=
  ⟨_, fun W _ => validS_any h.num A c W, fun W _ => rValidS_any h.num A c W⟩
theorem el_all : ∃ (XS : List Int) (m : Nat) (e : Int), m ≤ 65536 ∧ (∀ W, Ok w0 W → Calls Tryd.prog 9 #[spV s A n c T N lo hi] W fun E W' => ∃ v, E = .returned (.tuple #[v, .int .i64 e]) ∧ W'.ownsRow W.heap.size 3 1 v m (ints XS) ∧ Below W.heap.size W W') ∧
    (∀ W, Ok w0 W → Calls Tryd.prog 10 #[spV s A n c T N lo hi] W fun E W' => ∃ v, E = .returned (.tuple #[v, .int .i64 e]) ∧ W'.ownsRow W.heap.size 3 1 v m (ints XS) ∧ Below W.heap.size W W') := by
  by_cases hv : vS s.size n T N lo hi = 0
  · obtain ⟨m, D, I, rfl, hO, H, HR, hI, hT⟩ := h.good (c := c) hv
    exact ⟨parts D 0 m T, m, 0, by have := hO.n1; omega, fun W hW => all_any (h.rn W hW).net hO H hI, fun W hW => rall_good (h.rn W hW) h.num hv HR hI⟩
  · refine ⟨[], 0, vS s.size n T N lo hi, by omega, fun W hW => (pall_err h.num _ rfl (vS_err hv)).mono ?_, fun W hW => (rall_err h.num _ rfl (vS_err hv)).mono ?_⟩
    · rintro E W' ⟨rfl, b⟩
      exact ⟨_, rfl, ⟨rfl, .inl ⟨rfl, rfl⟩⟩, b⟩
    · rintro E W' ⟨rfl, b⟩
      exact ⟨_, rfl, ⟨rfl, .inl ⟨rfl, rfl⟩⟩, b⟩
theorem el_part (k : Int) : ∃ v e : Int, (∀ W, Ok w0 W → Calls Tryd.prog 13 #[spV s A n c T N lo hi, .int .i64 k] W fun E W' => E = .returned (.tuple #[.int .i64 v, .int .i64 e]) ∧ Below W.heap.size W W') ∧
    (∀ W, Ok w0 W → Calls Tryd.prog 14 #[spV s A n c T N lo hi, .int .i64 k] W fun E W' => E = .returned (.tuple #[.int .i64 v, .int .i64 e]) ∧ Below W.heap.size W W') := by
  by_cases hv : vS s.size n T N lo hi = 0
  · by_cases g0 : k < 0
    · exact ⟨0, 6, fun W hW => ppart_none0 h.num k hv g0, fun W hW => rpart_none0 h.num k hv g0⟩
    · by_cases g1 : N ≤ k
      · exact ⟨0, 6, fun W hW => ppart_none1 h.num k hv g0 g1, fun W hW => rpart_none1 h.num k hv g0 g1⟩
      · obtain ⟨m, D, I, rfl, hO, H, HR, hI, hT⟩ := h.good (c := c) hv
        exact ⟨_, _, fun W hW => part_any (h.rn W hW).net hO H hI hT k (by omega) (by omega), fun W hW => rpart_good (h.rn W hW) h.num hv HR hI k (by omega) (by omega)⟩
  · exact ⟨0, _, fun W hW => ppart_err h.num k _ rfl (vS_err hv), fun W hW => rpart_err h.num k _ rfl (vS_err hv)⟩
theorem el_before (k : Int) : ∃ v e : Int, (∀ W, Ok w0 W → Calls Tryd.prog 15 #[spV s A n c T N lo hi, .int .i64 k] W fun E W' => E = .returned (.tuple #[.int .i64 v, .int .i64 e]) ∧ Below W.heap.size W W') ∧
    (∀ W, Ok w0 W → Calls Tryd.prog 16 #[spV s A n c T N lo hi, .int .i64 k] W fun E W' => E = .returned (.tuple #[.int .i64 v, .int .i64 e]) ∧ Below W.heap.size W W') := by
  by_cases hv : vS s.size n T N lo hi = 0
  · by_cases g0 : k < 0
    · exact ⟨0, 6, fun W hW => pbefore_none0 h.num k hv g0, fun W hW => rbefore_none0 h.num k hv g0⟩
    · by_cases g1 : N < k
      · exact ⟨0, 6, fun W hW => pbefore_none1 h.num k hv g0 g1, fun W hW => rbefore_none1 h.num k hv g0 g1⟩
      · obtain ⟨m, D, I, rfl, hO, H, HR, hI, hT⟩ := h.good (c := c) hv
        by_cases g2 : k = (m : Int)
        · subst g2
          exact ⟨T, 0, fun W hW => before_all hO, fun W hW => rbefore_end h.num hv⟩
        · exact ⟨_, _, fun W hW => before_any (h.rn W hW).net hO H hI hT k (by omega) (by omega), fun W hW => rbefore_good (h.rn W hW) h.num hv HR hI k (by omega) (by omega)⟩
  · exact ⟨0, _, fun W hW => pbefore_err h.num k _ rfl (vS_err hv), fun W hW => rbefore_err h.num k _ rfl (vS_err hv)⟩
theorem el_find (k : Int) : ∃ v u e : Int, (∀ W, Ok w0 W → Calls Tryd.prog 17 #[spV s A n c T N lo hi, .int .i64 k] W fun E W' => E = .returned (.tuple #[.int .i64 v, .int .i64 u, .int .i64 e]) ∧ Below W.heap.size W W') ∧
    (∀ W, Ok w0 W → Calls Tryd.prog 18 #[spV s A n c T N lo hi, .int .i64 k] W fun E W' => E = .returned (.tuple #[.int .i64 v, .int .i64 u, .int .i64 e]) ∧ Below W.heap.size W W') := by
  by_cases hv : vS s.size n T N lo hi = 0
  · by_cases g : lo < 0
    · exact ⟨0, 0, 1, fun W hW => pfind_none0 h.num k hv g, fun W hW => rfind_none0 h.num k hv g⟩
    · by_cases g0 : k < 0
      · exact ⟨0, 0, 6, fun W hW => pfind_none1 h.num k hv g g0, fun W hW => rfind_none1 h.num k hv g g0⟩
      · by_cases g1 : T ≤ k
        · exact ⟨0, 0, 6, fun W hW => pfind_none2 h.num k hv g g0 g1, fun W hW => rfind_none2 h.num k hv g g0 g1⟩
        · obtain ⟨m, D, I, rfl, hO, H, HR, hI, hT⟩ := h.good (c := c) hv
          have hsm := desc_small HR (pFind k) m 0 T 0 hI
          have hm := (HR.few 0 m T hI).2.1
          exact ⟨_, _, _, fun W hW => find_any (h.rn W hW).net hO H hI hT (by omega) k (by omega) (by omega) (by omega), fun W hW => rfind_good (h.rn W hW) h.num hv HR hI k (by omega) (by omega) (by omega)⟩
  · exact ⟨0, 0, _, fun W hW => pfind_err h.num k _ rfl (vS_err hv), fun W hW => rfind_err h.num k _ rfl (vS_err hv)⟩
end
end Go.Proofs.YtnionejefpnfoaaDoor
