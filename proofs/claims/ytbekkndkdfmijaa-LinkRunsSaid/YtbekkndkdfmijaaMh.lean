/- The reference's find (40). No condition but sizes. -/
import Derived.Test.YtbekkndkdfmijaaMg
set_option linter.unusedSimpArgs false
set_option linter.unusedVariables false
namespace Go.Proofs.Ytbekkndkdfmijaa
open Go.RowKit Go

/-- where a number stands, or -1 -/
def findI : List Int → Int → Nat → Int
  | [], _, _ => -1
  | x :: xs, s, i => if x = s then (i : Int) else findI xs s (i + 1)
theorem findI_at : ∀ (l : List Int) (s : Int) (i j : Nat), (∀ t, t < j → l[t]? ≠ some s) → l[j]? = some s → findI l s i = ((i + j : Nat) : Int)
  | [], s, i, j, _, h => by simp at h
  | x :: xs, s, i, j, hn, h => by
    unfold findI
    cases j with
    | zero => simp at h; rw [if_pos h]; rfl
    | succ j =>
      have h0 := hn 0 (by omega)
      simp at h0 h
      rw [if_neg h0, findI_at xs s (i + 1) j (fun t ht => by have := hn (t + 1) (by omega); simpa using this) h]
      congr 1
      omega
theorem findI_none : ∀ (l : List Int) (s : Int) (i : Nat), (∀ t, t < l.length → l[t]? ≠ some s) → findI l s i = -1
  | [], _, _, _ => rfl
  | x :: xs, s, i, hn => by
    unfold findI
    have h0 := hn 0 (by simp)
    simp at h0
    rw [if_neg h0, findI_none xs s (i + 1) (fun t ht => by have := hn (t + 1) (by simp; omega); simpa using this)]
theorem heldCells_at : ∀ (ss : List Int) (us : List Value) (i : Nat), us.length = ss.length → i < ss.length → (heldCells ss us)[2 * i]? = some (.int .i64 (ss[i]?.getD 0)) ∧ (heldCells ss us)[2 * i + 1]? = us[i]?
  | [], _, i, _, h => by simp at h
  | s :: ss, [], i, h, _ => by simp at h
  | s :: ss, u :: us, i, h, hi => by
    cases i with
    | zero => exact ⟨rfl, rfl⟩
    | succ i =>
      obtain ⟨h1, h2⟩ := heldCells_at ss us i (by simpa using h) (by simpa using hi)
      unfold heldCells
      rw [show 2 * (i + 1) = 2 * i + 1 + 1 by omega]
      simp only [List.getElem?_cons_succ]
      exact ⟨h1, h2⟩
set_option maxRecDepth 100000 in
set_option maxHeartbeats 4000000 in
theorem rFind_any {w : World} {B g : Nat} {vS vH : Value} {S : List (List UInt8)} {ss : List Int} {bs : List (List UInt8)} {E : EndV} (s : Int) (H : RefAt w B g vS vH S ss bs E) (hs : ss.length ≤ 100000) :
    Calls Try.prog 40 #[.pointer (some ⟨g, 0, none⟩), .int .i64 s] w fun e W' => e = .returned (.int .i64 (findI ss s 0)) ∧ W' = w := by
  obtain ⟨us, ho, -, hu⟩ := H.held
  obtain ⟨A, d, rfl, hd, -, -⟩ := own_slice ho
  obtain ⟨m, hm⟩ : ∃ m, m = ss.length := ⟨_, rfl⟩
  rw [← hm] at ho hd
  have c5 : w.cell? ⟨g, 5, none⟩ = some (.slice A m d) := by have := H.blk.at_ (i := 5) (v := .slice A ss.length d) rfl; rw [← hm] at this; exact this
  have HM := Lib.hid hm
  have HO := Lib.hid ho
  have HU := Lib.hid hu
  have hm1 : m ≤ 100000 := by omega
  clear hm ho hu H
  go_enter Try.func40, Try.ntmps40
  go_wp2_with fail
  go_loopw [5] (fun iv wr => ∃ i : Nat, i ≤ m ∧ iv = .int .i64 (i : Int) ∧ wr = w ∧ Hid (∀ t, t < i → ss[t]? ≠ some s)) (fun iv _ => m - (intOf iv).toNat)
  case atStart => exact ⟨0, by omega, rfl, rfl, Lib.hid fun t ht => absurd ht (Nat.not_lt_zero t)⟩
  case round =>
    obtain ⟨i, hi, rfl, rfl, HN⟩ := hrel
    by_cases hil : i < m
    · have hii : (i : Int) < (m : Int) := by omega
      have hii0 : (0 : Int) ≤ (i : Int) := by omega
      obtain ⟨b, cap, hv, -⟩ := HO.out.form (by omega)
      injection hv with hv1 hv2 hv3
      subst hv1
      have hc := HO.out.cells (g := b) rfl (2 * i) _ (heldCells_at ss us i HU.out (by rw [← HM.out]; exact hil)).1
      rw [addr_add0] at hc
      have hc2 := hc
      rw [Nat.mul_comm] at hc2
      obtain ⟨x, hx⟩ : ∃ x, ss[i]? = some x := ⟨_, List.getElem?_eq_getElem (by rw [← HM.out]; exact hil)⟩
      rw [hx, Option.getD_some] at hc hc2
      have HX := Lib.hid hx
      clear hx hv2 hv3
      by_cases hxs : x = s
      · have hb : (x == s) = true := by simpa using hxs
        go_wp2_with fail
        go_ret
        refine ⟨?_, rfl⟩
        rw [findI_at ss s 0 i HN.out (by rw [HX.out, hxs])]
        simp
      · have hb : (x == s) = false := by simpa using hxs
        go_wp2_with fail
        exact ⟨⟨i + 1, by omega, by go_num, trivial, Lib.hid fun t ht => by
          by_cases e : t = i
          · subst e; rw [HX.out]; intro e2; injection e2 with e2; exact hxs e2
          · exact HN.out t (by omega)⟩, by simp [intOf]; omega⟩
    · obtain rfl : m = i := by omega
      have hii : ¬ (m : Int) < (m : Int) := by omega
      go_wp2_with fail
      go_ret
      exact ⟨by rw [findI_none ss s 0 (fun t ht => HN.out t (by rw [HM.out]; exact ht))]; rfl, rfl⟩
end Go.Proofs.Ytbekkndkdfmijaa
