/- LinkSeals: the walk (function 4). No condition. -/
import Derived.Test.YtbekkndkdfmijaaKo
set_option linter.unusedSimpArgs false
set_option linter.unusedVariables false
namespace Go.Proofs.Ytbekkndkdfmijaa
open Go.RowKit Go

theorem reads_cells {W : World} {B n : Nat} {ad : Addr} {xs : List Value} (h : Reads W B 1 (some ad) n xs) : ∀ j u, xs[j]? = some u → W.cell? (ad.add j) = some u := fun j u hu => by
  have hl := h.1
  have hj : j < xs.length := (List.getElem?_eq_some_iff.1 hu).1
  obtain ⟨ad', e, -, hc⟩ := h.2 (by omega)
  cases e
  exact hc j u hu
theorem wInts_q (s a : Int) (g : Nat) (W : World) (hs : I64 s) (ha : I64 a) (hg : Blk W g 3 #[.int .i64 s, .int .i64 a]) :
    Calls Try.prog 26 #[.slice (some ⟨g, 0, none⟩) 2 2] W fun e W' => ∃ v N, Hid (N ≤ 27) ∧ Hid (W'.ownsRow W.heap.size 5 1 v N (bytesV (encInts [s, a]))) ∧ e = .returned v ∧ Below W.heap.size W W' := by
  refine (wInts_any (some ⟨g, 0, none⟩) 2 2 [s, a] W (reads_two hg) (by intro x hx; simp at hx; rcases hx with rfl | rfl <;> assumption) (by omega)).mono ?_
  rintro e W' ⟨v, rfl, ho, hb⟩
  have h2 := encInt_le ((2 : Nat) : Int) (I64.nat (by omega))
  have h3 := encInt_le s hs
  have h4 := encInt_le a ha
  have e : (encInts [s, a]).length = (encInt ((2 : Nat) : Int)).length + ((encInt s).length + (encInt a).length) := by
    show (encInt ((2 : Nat) : Int) ++ (encInt s ++ (encInt a ++ []))).length = _
    simp
  exact ⟨v, _, Lib.hid (by omega), Lib.hid ho, rfl, hb⟩
theorem wBytes_q (b : List UInt8) (W : World) (hb : b.length ≤ 100000) :
    Calls Try.prog 27 #[.string ⟨b.toArray⟩] W fun e W' => ∃ x n c, Hid (Per W' (some ⟨x, 0, none⟩) n (encBytes b)) ∧ Hid (n ≤ 100009) ∧ e = .returned (.slice (some ⟨x, 0, none⟩) n c) ∧ Below W.heap.size W W' := by
  refine (wBytes_any ⟨b.toArray⟩ W (by show b.toArray.size ≤ _; simp; omega)).mono ?_
  rintro e W' ⟨v, rfl, ho, hbl⟩
  have hr := ho
  have h0 : 0 < (encBytes b).length := by unfold encBytes; rw [List.length_append, encInt_length]; omega
  obtain ⟨x, c, cs, rfl, -, -, -, -, -⟩ := own_open ho (by simpa using h0)
  have h2 := encBytes_le' b (by omega)
  exact ⟨x, _, c, Lib.hid (per_of (Reads.of_own hr)), Lib.hid (by simpa using (by omega : (encBytes b).length ≤ 100009)), rfl, hbl⟩
/-- an append to a row of our own, in a region that draws its order -/
theorem append_q {o : Oper} {a : Act} {K : Act → World → Prop} {Q : Exit → Act → World → Prop} {w1 w2 W : World} {B N n c : Nat} {v : Value} {ad : Addr} {F G : List UInt8} (s x : Operand)
    (HO : Hid (w1.ownsRow B 5 1 v N (bytesV F))) (HL : Hid (Per w2 (some ad) n G)) (hN : Hid (N ≤ 1000)) (hn : Hid (n ≤ 100009)) (hB : Hid (B ≤ w1.heap.size))
    (ho : o.op = .call { callee := .builtin .append, args := #[s, x], argTypes := #[33, 33] }) (hs : a.eval s = v) (hx : a.eval x = .slice (some ad) n c) (k1 : Ok w1 W) (k2 : Ok w2 W)
    (h : ∀ A d w', Hid (Per w' A (N + n) (F ++ G)) → Hid (N + n ≤ d) → Below B W w' → Hid (w'.ownsRow B 5 1 (.slice A (N + n) d) (N + n) (bytesV (F ++ G))) → K (a.put o.dst (.slice A (N + n) d)) w') : o.wp Try.prog a W K Q := by
  obtain ⟨i0, hi, hz0, hz1, hz2⟩ := info_parts info_u8
  have hL := HL.out W k2
  have h1 := hN.out
  have h2 := hn.out
  have h3 := hB.out
  have h4 := k1.size
  have hO := own_ok HO.out k1
  refine wp_append_own W s x 33 ho B 5 i0 (.int .u8 0) 1 1 Try.underlying33 hi hz0 hz1 hz2 rfl (by decide) v N _ hs hO ad n c (bytesV G) hx (by rw [bytesV_length, hL.byte_len, Nat.mul_one]) (reads_cells hL) (bytesV_one _) (by unfold maxLen; omega) (by omega) (by omega) ?_
  intro v' w' ho' hg _
  rw [← bytesV_append] at ho'
  obtain ⟨A, d, rfl, hd, -, -⟩ := own_slice ho'
  exact h A d w' (Lib.hid (per_of (Reads.of_own ho'))) (Lib.hid hd) ((Below.refl B W).grown hg (by omega) (fun b e => (hO.lt b e).1)) (Lib.hid ho')
/-- what Open gives: the bytes, the error -/
def opR (k : Nat) (T : List UInt8) : List UInt8 := match openL k T with | .ok r => r | .error _ => []
def opF (k : Nat) (T : List UInt8) : Nat := match openL k T with | .ok _ => 0 | .error e => e
theorem openL_take {k : Nat} {T r : List UInt8} (h : openL k T = .ok r) : r = T.take (T.length - 8) := by
  unfold openL at h
  split at h
  · cases h
  · split at h
    · injection h with h; exact h.symm
    · cases h
theorem opR_le (k : Nat) (T : List UInt8) : (opR k T).length ≤ T.length := by
  unfold opR
  cases h : openL k T with
  | ok r => rw [openL_take h]; show (List.take _ T).length ≤ _; rw [List.length_take]; omega
  | error e => show 0 ≤ _; omega
theorem per_nil (W : World) : Per W none 0 [] := per_of ⟨rfl, fun h => absurd h (Nat.lt_irrefl 0)⟩
theorem wOpen_q (k : Nat) {A : Option Addr} {n c : Nat} {T : List UInt8} {w0 W : World} (HP : Per w0 A n T) (hk : k < 18446744073709551616) (hn : n ≤ 100000) (hnc : n ≤ c) (hW : Ok w0 W) :
    Calls Try.prog 25 #[.int .u64 (k : Int), .slice A n c] W fun e W' => ∃ A' c', Hid (Per W' A' (opR k T).length (opR k T)) ∧ e = .returned (.tuple #[.slice A' (opR k T).length c', .int .i64 (opF k T : Int)]) ∧ Below W.heap.size W W' ∧ Ok w0 W' := by
  refine (wOpen_any k A n c T W hk (HP W hW) hn hnc).mono ?_
  rintro e W' ⟨⟨v, rfl, ho⟩, hb⟩
  unfold opR opF
  cases h : openL k T with
  | ok r =>
    obtain ⟨A', c', rfl, -, -, -⟩ := own_slice (ho r h)
    exact ⟨A', c', Lib.hid (per_of (Reads.of_own (ho r h))), rfl, hb, Ok.step hW hb⟩
  | error e => exact ⟨none, 0, Lib.hid (per_nil W'), rfl, hb, Ok.step hW hb⟩
theorem rOpen_q (k : Nat) {A : Option Addr} {n c : Nat} {T : List UInt8} {w0 W : World} (HP : Per w0 A n T) (hk : k < 18446744073709551616) (hn : n ≤ 100000) (hnc : n ≤ c) (hW : Ok w0 W) :
    Calls Try.prog 30 #[.int .u64 (k : Int), .slice A n c] W fun e W' => ∃ A' c', Hid (Per W' A' (opR k T).length (opR k T)) ∧ e = .returned (.tuple #[.slice A' (opR k T).length c', .int .i64 (opF k T : Int)]) ∧ Below W.heap.size W W' ∧ Ok w0 W' := by
  refine (rOpen_any k A n c T W hk (HP W hW) hn hnc).mono ?_
  rintro e W' ⟨rfl, hb⟩
  unfold opR opF
  cases h : openL k T with
  | ok r =>
    refine ⟨A, c, Lib.hid fun W2 hW2 => ?_, rfl, hb, Ok.step hW hb⟩
    have hT := HP W2 ((Ok.step hW hb).step (Below.mono hW2 (Nat.le_refl _)))
    have e1 := openL_take h
    have e2 := hT.byte_len
    have h3 := hT.take (k := T.length - 8) (by omega)
    rw [Nat.mul_one, show (bytesV T).take (T.length - 8) = bytesV r by rw [e1]; simp [bytesV, List.map_take]] at h3
    have e4 : r.length = T.length - 8 := by rw [e1, List.length_take]; omega
    show Reads W2 W2.heap.size 1 A r.length (bytesV r)
    rw [e4]
    exact h3
  | error e => exact ⟨none, 0, Lib.hid (per_nil W'), rfl, hb, Ok.step hW hb⟩
end Go.Proofs.Ytbekkndkdfmijaa
