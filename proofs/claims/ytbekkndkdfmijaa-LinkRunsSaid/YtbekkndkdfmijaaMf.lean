/- SameLists (15), where the lists are equal. Condition: the rows are short. -/
import Derived.Test.YtbekkndkdfmijaaKr
import Derived.BigQuiet
set_option linter.unusedSimpArgs false
set_option linter.unusedVariables false
namespace Go.Proofs.Ytbekkndkdfmijaa
open Go.RowKit Go

set_option maxRecDepth 100000 in
set_option maxHeartbeats 4000000 in
theorem sameLists_any {w1 w2 W : World} {col1 col2 : Nat → Nat} {c1 c2 : Nat} {v1 v2 : Value} {ls : List (List UInt8)} (R1 : RowAt w1 col1 W c1 v1 ls) (R2 : RowAt w2 col2 W c2 v2 ls) (hl : ls.length ≤ 100000) (hm : ∀ l ∈ ls, l.length ≤ 1000000) :
    Calls Try.prog 15 #[v1, v2] W fun e W' => e = .returned (.bool true) ∧ Below W.heap.size W W' := by
  obtain ⟨A1, d1, rfl, h1⟩ := R1.form
  obtain ⟨A2, d2, rfl, h2⟩ := R2.form
  obtain ⟨L, hL⟩ : ∃ L, L = ls.length := ⟨_, rfl⟩
  rw [← hL] at h1 h2 hl R1 R2 ⊢
  have HR1 := Lib.hid R1
  have HR2 := Lib.hid R2
  have HL := Lib.hid hL
  have HM := Lib.hid hm
  clear R1 R2 hL hm
  go_enter Try.func15, Try.ntmps15
  go_wp2_with fail
  go_loopw [5] (fun iv wr => ∃ i : Nat, i ≤ L ∧ iv = .int .i64 (i : Int) ∧ Ok W wr) (fun iv _ => L - (intOf iv).toNat)
  case atStart => exact ⟨0, by omega, rfl, Below.refl _ _⟩
  case round =>
    obtain ⟨i, hi, rfl, hok⟩ := hrel
    by_cases hil : i < L
    · have hii : (i : Int) < (L : Int) := by omega
      have hii0 : (0 : Int) ≤ (i : Int) := by omega
      obtain ⟨b1, e1, hv1, -, X1, n1, m1, M1⟩ := HR1.out.get (j := i) (by rw [← HL.out]; exact hil)
      obtain ⟨b2, e2, hv2, -, X2, n2, m2, M2⟩ := HR2.out.get (j := i) (by rw [← HL.out]; exact hil)
      injection hv1 with g1 g2 g3
      injection hv2 with g4 g5 g6
      subst g1
      subst g4
      have hlen : (ls[i]?.getD []).length ≤ 1000000 := by
        rw [List.getElem?_eq_getElem (by rw [← HL.out]; exact hil), Option.getD_some]
        exact HM.out _ (List.getElem_mem _)
      have hsm : ∀ m, Calls Try.prog 29 #[.slice X1 n1 m1, .slice X2 n2 m2] (wr.drewN m) fun e W' => e = .returned (.bool true) ∧ ∃ m', W' = wr.drewN m' := fun m => Calls.quiet_of ((same_any X1 X2 n1 n2 m1 m2 _ _ (wr.drewN m).heap.size (wr.drewN m) (M1.ok (hok.drewN m)).byt.reads (M2.ok (hok.drewN m)).byt.reads (by have := M1.byt.1; omega) (by have := M2.byt.1; omega)).mono fun e W' h3 => by
        obtain ⟨he, hd⟩ := h3
        exact ⟨by rw [he, decide_eq_true rfl], hd⟩)
      have cc1 := (M1.ok hok).cell
      have cc2 := (M2.ok hok).cell
      have HSM := Lib.hid hsm
      clear hsm M1 M2 g2 g3 g5 g6 hlen
      go_wp2_with fail
      go_quiet (first | (go_at_call 29; exact HSM.out _))
      have ok9 : Ok W (wr.drewN nq) := Ok.drewN hok nq
      clear cc1 cc2
      go_wp2_with fail
      exact ⟨⟨i + 1, by omega, by go_num, ok9⟩, by simp [intOf]; omega⟩
    · obtain rfl : L = i := by omega
      have hii : ¬ (L : Int) < (L : Int) := by omega
      go_wp2_with fail
      go_ret
      exact ⟨rfl, hok⟩
end Go.Proofs.Ytbekkndkdfmijaa
