/- A message that is too long; what the packets of LinkWindow do. Nothing else of the program stands here. -/
import Derived.Test.YtbekkndkdfmijaaMa
import Derived.Test.YtbekkndkdfmijaaKv
set_option linter.unusedSimpArgs false
set_option linter.unusedVariables false
namespace Go.Proofs.Ytbekkndkdfmijaa
open Go.RowKit

set_option maxRecDepth 100000 in
set_option maxHeartbeats 4000000 in
theorem send_long (g h N : Nat) (q : Option Nat) (E : EndV) (A : Option Addr) (n c : Nat) (w : World) (H : EndAt w g q h N E) (hn : 65536 < n) :
    Calls Try.prog 11 #[.pointer (some ⟨g, 0, none⟩), .slice A n c] w fun e W' => e = .returned (.int .i64 4) ∧ W' = w := by
  have n1 : (65536 : Int) < (n : Int) := by omega
  have d1 : decide ((65536 : Int) < (n : Int)) = true := decide_eq_true n1
  go_enter Try.func11, Try.ntmps11
  go_wp2_with fail
  go_ret
  exact ⟨rfl, rfl⟩
section
variable {win key n k : Nat}
/-- the end that n messages were given to -/
abbrev En (win key n : Nat) : EndV := { newE win key with wait := msgs n }
theorem out_En (hk : 1 ≤ win) : outF (En win key n) = outTo (En win key n) (min n win) := by
  unfold outF
  rw [if_neg (fun h => by cases h.2)]
  unfold outN
  rw [show (En win key n).wait.length = n from msgs_len n]
theorem outTo_En {j : Nat} (hj : j < min n win) : (outTo (En win key n) (min n win))[j]?.getD [] = sealL key (pktB ((j + 1 : Nat) : Int) 0 [byt j]) := by
  unfold outTo
  rw [List.getElem?_map, List.getElem?_range hj, Option.map_some, Option.getD_some, show (En win key n).wait = msgs n from rfl, msgs_get (by omega), Option.getD_some]
  show sealL key (pktB ((0 : Int) + (j : Int) + 1) 0 [byt j]) = _
  rw [show (0 : Int) + (j : Int) + 1 = ((j + 1 : Nat) : Int) by omega]
theorem in_far {E : EndV} (hk : E.key = key) (hl : E.ack + E.wait.length < k) (h : k ≤ 1000000) : inF E (sealL key (pktB 0 (k : Int) [])) = ([], 0, E) := by
  have h1 := inF_pk (E := E) hk (s := 0) (a := k) (b := []) (by omega) h (by simp) (fun _ => rfl)
  rw [show ((0 : Nat) : Int) = 0 from rfl] at h1
  rw [h1]
  unfold inP
  rw [if_pos (by omega)]
theorem in_ack (hk : k ≤ n) (hn : n ≤ 100) : ∃ E', inF (En win key n) (sealL key (pktB 0 (k : Int) [])) = ([], 0, E') ∧ E'.wait.length = n - k ∧ E'.win = win ∧ E'.key = key ∧ E'.owe = false ∧ E'.ack = k ∧ E'.got = 0 ∧ (∀ l ∈ E'.wait, l.length ≤ 100) := by
  have h1 := inF_pk (E := En win key n) (key := key) rfl (s := 0) (a := k) (b := []) (by omega) (by omega) (by simp) (fun _ => rfl)
  rw [show ((0 : Nat) : Int) = 0 from rfl] at h1
  refine ⟨inAck (En win key n) (k : Int), ?_, ?_, ?_, ?_, inAck_owe _, inAck_ack (Nat.zero_le _), inAck_got _ _, ?_⟩
  · rw [h1]
    unfold inP
    rw [if_neg (by rw [show (En win key n).wait.length = n from msgs_len n, show (En win key n).ack = 0 from rfl, show (En win key n).got = 0 from rfl]; omega), if_pos rfl]
  · unfold inAck
    split
    · show ((msgs n).drop _).length = _
      rw [List.length_drop, msgs_len]
      show n - ((k : Int) - ((0 : Nat) : Int)).toNat = n - k
      omega
    · rename_i h
      have : ¬ ((0 : Nat) : Int) < (k : Int) := h
      rw [show (En win key n).wait.length = n from msgs_len n]
      omega
  · unfold inAck; split <;> rfl
  · unfold inAck; split <;> rfl
  · unfold inAck
    split
    · exact fun l hl => msgs_le n l (List.mem_of_mem_drop hl)
    · exact msgs_le n
theorem in_two : ∃ E1 E2 x, inF (newE 1 key) (sealL key (pktB ((2 : Nat) : Int) 0 [byt 1])) = ([], 0, E1) ∧ inF E1 (sealL key (pktB ((1 : Nat) : Int) 0 [byt 0])) = (x, 0, E2) ∧ x.length = 2 ∧ E1.wait = [] ∧ E1.key = key ∧ E1.win = 1 ∧ E1.ack = 0 ∧ E1.got = 0 ∧ E1.forg = 0 ∧ (∀ s b, E1.held s = some b → s ≤ 16) := by
  have h1 := inF_pk (E := newE 1 key) (key := key) rfl (s := 2) (a := 0) (b := [byt 1]) (by omega) (by omega) (by simp) (fun h => by omega)
  have e1 : inP (newE 1 key) ((2 : Nat) : Int) ((0 : Nat) : Int) [byt 1] = ([], { newE 1 key with owe := true, held := fun k => if k = 2 then some [byt 1] else none }) := by
    have a1 : inAck (newE 1 key) ((0 : Nat) : Int) = newE 1 key := if_neg (by show ¬ ((0 : Nat) : Int) < ((0 : Nat) : Int); omega)
    unfold inP
    rw [if_neg (by show ¬ (((0 : Nat) : Int) + ((0 : Nat) : Int) < ((0 : Nat) : Int) ∨ ((0 : Nat) : Int) + 16 < ((2 : Nat) : Int)); omega), if_neg (by omega), a1]
    have p1 : inPut { newE 1 key with owe := true } ((2 : Nat) : Int) [byt 1] = { newE 1 key with owe := true, held := fun k => if k = 2 then some [byt 1] else none } := by
      unfold inPut
      rw [if_pos ⟨by show ((0 : Nat) : Int) < ((2 : Nat) : Int); omega, rfl⟩]
      rfl
    rw [p1]
    unfold inRun
    have r1 : runD (fun k : Int => if k = 2 then some [byt 1] else none) 17 0 = [] := runD_none (by rw [if_neg (by omega)]) (by omega)
    dsimp only
    rw [r1]
    show ([], ({ newE 1 key with owe := true, held := cutH _ 0 0 } : EndV)) = _
    rw [cutH_zero]
  rw [e1] at h1
  have h2 := inF_pk (E := { newE 1 key with owe := true, held := fun k => if k = 2 then some [byt 1] else none }) (key := key) rfl (s := 1) (a := 0) (b := [byt 0]) (by omega) (by omega) (by simp) (fun h => by omega)
  refine ⟨_, _, _, h1, h2, rfl, rfl, rfl, rfl, rfl, rfl, rfl, fun s b hb => ?_⟩
  dsimp only at hb
  split at hb
  · omega
  · cases hb
end
end Go.Proofs.Ytbekkndkdfmijaa
