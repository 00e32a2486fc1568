/- Two ends beside each other; what stays small; the example's states. Nothing is walked here. -/
import Derived.Test.YtbekkndkdfmijaaKl
set_option linter.unusedSimpArgs false
set_option linter.unusedVariables false
namespace Go.Proofs.Ytbekkndkdfmijaa
open Go.RowKit

/-- an end whose numbers are small -/
structure Good (E : EndV) (K : Nat) : Prop where
  key : E.key < 18446744073709551616
  win0 : 1 ≤ E.win
  win : E.win ≤ 16
  ack : E.ack + E.wait.length ≤ K
  got : E.got ≤ K
  forg : E.forg ≤ K
  msgs : ∀ l ∈ E.wait, l.length ≤ 1000
  keys : ∀ k l, E.held k = some l → k ≤ (E.got : Int) + 16
theorem Good.mono {E : EndV} {K K' : Nat} (h : Good E K) (hK : K ≤ K') : Good E K' := ⟨h.key, h.win0, h.win, by have := h.ack; omega, by have := h.got; omega, by have := h.forg; omega, h.msgs, h.keys⟩
theorem good_new (win key : Nat) (h : key < 18446744073709551616) (h1 : 1 ≤ win) (h2 : win ≤ 16) (K : Nat) : Good (newE win key) K := ⟨h, h1, h2, Nat.zero_le _, Nat.zero_le _, Nat.zero_le _, by simp, fun k l h => by cases h⟩
theorem good_owe {E : EndV} {K : Nat} (h : Good E K) (b : Bool) : Good { E with owe := b } K := ⟨h.key, h.win0, h.win, h.ack, h.got, h.forg, h.msgs, h.keys⟩
theorem good_send {E : EndV} {K : Nat} (h : Good E K) (l : List UInt8) (hl : l.length ≤ 1000) : Good { E with wait := E.wait ++ [l] } (K + 1) :=
  ⟨h.key, h.win0, h.win, by have := h.ack; simp; omega, by have := h.got; dsimp only; omega, by have := h.forg; dsimp only; omega, fun x hx => by
    rcases List.mem_append.1 hx with hx | hx
    · exact h.msgs x hx
    · simp at hx; rw [hx]; exact hl, h.keys⟩
theorem runD_len (f : Int → Option (List UInt8)) : ∀ k d, (runD f k d).length ≤ k
  | 0, d => by simp [runD]
  | k + 1, d => by
    unfold runD
    split
    · simp
    · have := runD_len f k (d + 1)
      simp only [List.length_cons]
      omega
theorem cutH_some {f : Int → Option (List UInt8)} {d r : Nat} {k : Int} {l : List UInt8} (h : cutH f d r k = some l) : f k = some l := by
  unfold cutH at h
  split at h
  · cases h
  · exact h
theorem good_run {E : EndV} {K : Nat} (h : Good E K) : Good (inRun E).2 (K + 17) := by
  have hl := runD_len E.held 17 E.got
  exact ⟨h.key, h.win0, h.win, by have := h.ack; show E.ack + E.wait.length ≤ K + 17; omega, by have := h.got; show E.got + (runD E.held 17 E.got).length ≤ K + 17; omega, by have := h.forg; show E.forg ≤ K + 17; omega, h.msgs, fun k l hk => by
    have := h.keys k l (cutH_some hk)
    show k ≤ ((E.got + (runD E.held 17 E.got).length : Nat) : Int) + 16
    omega⟩
theorem good_ack {E : EndV} {K : Nat} (h : Good E K) {a : Int} (ha : a ≤ (E.ack : Int) + E.wait.length) : Good (inAck E a) K := by
  unfold inAck
  split
  · rename_i hlt
    refine ⟨h.key, h.win0, h.win, ?_, h.got, h.forg, fun l hl => h.msgs l (List.mem_of_mem_drop hl), h.keys⟩
    have := h.ack
    simp only [List.length_drop]
    omega
  · exact h
theorem inAck_got (E : EndV) (a : Int) : (inAck E a).got = E.got := by unfold inAck; split <;> rfl
theorem inAck_held (E : EndV) (a : Int) : (inAck E a).held = E.held := by unfold inAck; split <;> rfl
theorem good_put {E : EndV} {K : Nat} (h : Good E K) {s : Int} {b : List UInt8} (hs : s ≤ (E.got : Int) + 16) : Good (inPut E s b) K := by
  unfold inPut
  split
  · refine ⟨h.key, h.win0, h.win, h.ack, h.got, h.forg, h.msgs, fun k l hk => ?_⟩
    dsimp only at hk ⊢
    by_cases e : k = s
    · omega
    · rw [if_neg e] at hk
      exact h.keys k l hk
  · exact h
theorem good_in {E : EndV} {K : Nat} (h : Good E K) (l : List UInt8) : Good (inF E l).2.2 (K + 17) := by
  unfold inF
  cases hO : openL E.key l with
  | error e =>
    dsimp only
    split
    · exact ⟨h.key, h.win0, h.win, by have := h.ack; dsimp only; omega, by have := h.got; dsimp only; omega, by have := h.forg; dsimp only; omega, h.msgs, h.keys⟩
    · exact h.mono (by omega)
  | ok core =>
    dsimp only
    cases hR : readP core with
    | none => exact h.mono (by omega)
    | some p =>
      obtain ⟨s, a, b⟩ := p
      dsimp only
      unfold inP
      by_cases hc : (E.ack : Int) + (E.wait.length : Int) < a ∨ (E.got : Int) + 16 < s
      · rw [if_pos hc]
        exact h.mono (by omega)
      · rw [if_neg hc]
        have hA := good_ack h (a := a) (by omega)
        by_cases h0 : s = 0
        · rw [if_pos h0]
          exact hA.mono (by omega)
        · rw [if_neg h0]
          refine good_run (good_put (good_owe hA true) ?_)
          show s ≤ ((inAck E a).got : Int) + 16
          rw [inAck_got]
          omega
/-- two ends, apart -/
structure Two (w : World) (g h N : Nat) (q : Option Nat) (E : EndV) (g' h' N' : Nat) (q' : Option Nat) (E' : EndV) : Prop where
  one : EndAt w g q h N E
  two : EndAt w g' q' h' N' E'
  apart : ∀ i, i ∈ g' :: h' :: q'.toList → i ∉ g :: h :: q.toList
section
variable {w w' : World} {g h N g' h' N' : Nat} {q q' : Option Nat} {E E' : EndV}
theorem Two.swap (T : Two w g h N q E g' h' N' q' E') : Two w g' h' N' q' E' g h N q E := ⟨T.two, T.one, fun i hi hm => T.apart i hm hi⟩
theorem Two.bel (T : Two w g h N q E g' h' N' q' E') (k : Below w.heap.size w w') : Two w' g h N q E g' h' N' q' E' := ⟨T.one.bel k, T.two.bel k, T.apart⟩
/-- the first one has done something -/
theorem Two.step (T : Two w g h N q E g' h' N' q' E') {q2 : Option Nat} {N2 : Nat} {E2 : EndV} (H : EndAt w' g q2 h N2 E2) (f : Fr (g :: h :: q.toList) w w') (hq : q2 = q ∨ ∃ i, q2 = some i ∧ w.heap.size ≤ i) : Two w' g h N2 q2 E2 g' h' N' q' E' := by
  refine ⟨H, T.two.fr f T.apart (f.u8 T.one.not_u8), fun i hi hm => ?_⟩
  rcases hq with rfl | ⟨j, rfl, hj⟩
  · exact T.apart i hi hm
  · have := T.two.lt i hi
    have h1 := T.apart i hi
    simp at hm h1
    omega
end
/-! ### the example -/
def LA : EndV := { newE 2 9 with wait := [[97], [98], [99]] }
def lp0 : List UInt8 := sealL 9 (pktB 1 0 [97])
def lp1 : List UInt8 := sealL 9 (pktB 2 0 [98])
def lq : List UInt8 := sealL 9 (pktB 0 2 [])
def lr : List UInt8 := sealL 9 (pktB 3 0 [99])
def LB1 : EndV := (inF (newE 2 9) lp1).2.2
def LB2 : EndV := (inF LB1 lp0).2.2
def LA4 : EndV := (inF LA lq).2.2
theorem e_out : outF LA = [lp0, lp1] := by kernel_rfl
theorem e_in1 : (inF (newE 2 9) lp1).1 = [] := by kernel_rfl
theorem e_in1e : (inF (newE 2 9) lp1).2.1 = 0 := by kernel_rfl
theorem e_in2 : (inF LB1 lp0).1 = [[97], [98]] := by kernel_rfl
theorem e_in2e : (inF LB1 lp0).2.1 = 0 := by kernel_rfl
theorem e_out2 : outF LB2 = [lq] := by kernel_rfl
theorem e_in3e : (inF LA lq).2.1 = 0 := by kernel_rfl
theorem e_in3 : (inF LA lq).1 = [] := by kernel_rfl
theorem e_out3 : outF LA4 = [lr] := by kernel_rfl
theorem e_wait : LA4.wait.length = 1 := by kernel_rfl
theorem e_forg : LA4.forg = 0 := by kernel_rfl
end Go.Proofs.Ytbekkndkdfmijaa
