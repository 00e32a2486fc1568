/- The walk of lives. Conditions: the round constants lie in their variable. -/
import Derived.Test.YtnionejefpnfoaaDoorVg
import Derived.Test.YtnionejefpnfoaaDoorVi
set_option linter.unusedSimpArgs false
set_option linter.unusedVariables false
namespace Go.Proofs.YtnionejefpnfoaaDoor
open Go.RowKit Go.Shelf Go

/-- nodes whose parts are all u, a bound -/
theorem halves_same {lo hi u : Int} (h : lo ≤ hi) (hu : u = lo ∨ u = hi) (m : Nat) : loB lo hi ((m : Int) * u) m = ((m / 2 : Nat) : Int) * u ∧ hiB lo hi ((m : Int) * u) m = ((m / 2 : Nat) : Int) * u ∧ (m : Int) * u - ((m / 2 : Nat) : Int) * u = ((m - m / 2 : Nat) : Int) * u := by
  have e1 : (m : Int) = ((m / 2 : Nat) : Int) + ((m - m / 2 : Nat) : Int) := by omega
  have e2 : (m : Int) * u = ((m / 2 : Nat) : Int) * u + ((m - m / 2 : Nat) : Int) * u := by rw [← Int.add_mul, ← e1]
  unfold loB hiB
  rw [e2]
  clear e1 e2
  have p0 : (0 : Int) ≤ ((m / 2 : Nat) : Int) := by omega
  have q0 : (0 : Int) ≤ ((m - m / 2 : Nat) : Int) := by omega
  generalize ((m / 2 : Nat) : Int) = p at *
  generalize ((m - m / 2 : Nat) : Int) = q at *
  have h1 := Int.mul_le_mul_of_nonneg_left h p0
  have h2 := Int.mul_le_mul_of_nonneg_left h q0
  rcases hu with rfl | rfl
  · generalize p * u = a at *
    generalize p * hi = b at *
    generalize q * u = c at *
    generalize q * hi = d at *
    omega
  · generalize p * u = a at *
    generalize p * lo = b at *
    generalize q * u = c at *
    generalize q * lo = d at *
    omega
def SameI (u : Int) (M : Nat) (a m : Nat) (t : Int) : Prop := a + m ≤ M ∧ t = (m : Int) * u
theorem same_halved {s : ByteArray} {A : Option Addr} {n c : Nat} {l : List Int} (hs : s.size ≤ 32) (hn : n ≤ 6) (T N lo hi u : Int) (M : Nat) (hM : M ≤ 65536) (h0 : -1048576 ≤ lo) (h1 : lo ≤ hi) (h2 : hi ≤ 1048576) (hu : u = lo ∨ u = hi) :
    Halved s A n c l T N lo hi (fun _ m _ => ((m / 2 : Nat) : Int) * u) (SameI u M) := by
  refine ⟨fun a m t h => by unfold SameI at h; omega, ?_, ?_, ?_⟩
  · rintro a m t ⟨ha, rfl⟩ h2m W hW
    obtain ⟨e1, e2, e3⟩ := halves_same h1 hu m
    obtain ⟨b1, b2⟩ := mul_small (a := (m : Int)) (b := u) (by omega) (by omega) (by omega) (by omega)
    have := halves_any hW hs hn (c := c) T N lo hi a m ((m : Int) * u) (by omega) (by omega) h0 h1 h2 b1 b2 (.inl (by rw [e1, e2]))
    unfold leftV at this
    rw [e1, e2, drawV_one] at this
    exact this
  · rintro a m t ⟨ha, rfl⟩ h2m
    exact ⟨by omega, rfl⟩
  · rintro a m t ⟨ha, rfl⟩ h2m
    exact ⟨by omega, (halves_same h1 hu m).2.2⟩
theorem parts_same (u : Int) (n : Nat) : ∀ a, parts (fun _ m _ => ((m / 2 : Nat) : Int) * u) a n ((n : Int) * u) = List.replicate n u := by
  induction n using Nat.strongRecOn with
  | ind n ih =>
    intro a
    by_cases h : 2 ≤ n
    · rw [parts_two _ a n _ h, ih _ (by omega)]
      have e : (n : Int) * u - ((n / 2 : Nat) : Int) * u = ((n - n / 2 : Nat) : Int) * u := by
        rw [← Int.sub_mul]
        congr 1
        omega
      rw [e, ih _ (by omega), List.replicate_append_replicate]
      congr 1
      omega
    · rcases (show n = 0 ∨ n = 1 by omega) with rfl | rfl
      · rw [parts_none]; rfl
      · rw [parts_one]; simp
/-- one part alone -/
def OneI (T : Int) (a m : Nat) (t : Int) : Prop := a = 0 ∧ m = 1 ∧ t = T
theorem one_halved {s : ByteArray} {A : Option Addr} {n c : Nat} {l : List Int} (T N lo hi T' : Int) (D : Nat → Nat → Int → Int) : Halved s A n c l T N lo hi D (OneI T') :=
  ⟨fun a m t h => by unfold OneI at h; omega, fun a m t h h2 => by unfold OneI at h; omega, fun a m t h h2 => by unfold OneI at h; omega, fun a m t h h2 => by unfold OneI at h; omega⟩
theorem net_none {s : ByteArray} {w : World} (hs : s.size ≤ 100000) (hK : Consts w) (h0 : 0 < w.heap.size) : Net s none 0 [] w := ⟨Reads.nil_ _ _ _ _, by simp, by omega, hs, hK, h0⟩
/-- the two parts of the example -/
theorem two_halved (c : Nat) (w : World) : Halved ⟨#[115]⟩ none 0 c [] 11 ((2 : Nat) : Int) 0 6 (leftV ⟨#[115]⟩ [] 0 6) (fun a m t => (a = 0 ∧ m = 2 ∧ t = 11) ∨ (a ≤ 1 ∧ m = 1 ∧ -100 ≤ t ∧ t ≤ 100)) := by
  have hl : leftV ⟨#[115]⟩ [] 0 6 0 2 11 = drawV ⟨#[115]⟩ [0, 2] 5 6 := rfl
  have hd := drawV_two ⟨#[115]⟩ [0, 2] 5
  have hd1 : drawV ⟨#[115]⟩ [0, 2] 5 (5 + 1) = drawV ⟨#[115]⟩ [0, 2] 5 6 := rfl
  rw [hd1] at hd
  refine ⟨?_, ?_, ?_, ?_⟩
  · rintro a m t (⟨-, h, -⟩ | ⟨-, h, -⟩) <;> omega
  · rintro a m t (⟨rfl, rfl, rfl⟩ | ⟨-, h, -⟩) h2
    · intro W hW
      exact halves_any hW (by decide) (by omega) 11 _ 0 6 0 2 11 (by omega) (by omega) (by omega) (by omega) (by omega) (by omega) (by omega) (.inr rfl)
    · omega
  · rintro a m t (⟨rfl, rfl, rfl⟩ | ⟨-, h, -⟩) h2
    · rw [hl]
      exact .inr ⟨by omega, rfl, by omega, by omega⟩
    · omega
  · rintro a m t (⟨rfl, rfl, rfl⟩ | ⟨-, h, -⟩) h2
    · rw [hl]
      exact .inr ⟨by omega, rfl, by omega, by omega⟩
    · omega
set_option maxRecDepth 100000 in
set_option maxHeartbeats 8000000 in
theorem splitLives_any (w : World) (hK : Consts w) (h0 : 0 < w.heap.size) : Calls Tryd.prog 19 #[] w fun E W' => E = .returned (.bool true) ∧ Below w.heap.size w W' := by
  have hN0 : ∀ W, Ok w W → Net ⟨#[]⟩ none 0 [] W := fun W hW => net_none (by decide) (hW.consts hK h0) (hW.pos h0)
  have hN1 : ∀ W, Ok w W → Net ⟨#[115]⟩ none 0 [] W := fun W hW => net_none (by decide) (hW.consts hK h0) (hW.pos h0)
  have H1 : Hid (∀ W, Ok w W → Calls Tryd.prog 9 #[spV ⟨#[]⟩ none 0 0 12 3 4 9] W fun E W' => ∃ v, E = .returned (.tuple #[v, .int .i64 0]) ∧ W'.ownsRow W.heap.size 3 1 v 3 (ints [4, 4, 4]) ∧ Below W.heap.size W W') := Lib.hid fun W hW => by
    have := all_any (c := 0) (hN0 W hW) (T := 12) (lo := 4) (hi := 9) (m := 3) ⟨by decide, by omega, by omega, by omega, by omega, by omega, by omega, by omega, by omega⟩ (same_halved (by decide) (by omega) 12 _ 4 9 4 3 (by omega) (by omega) (by omega) (by omega) (.inl rfl)) ⟨by omega, by omega⟩
    rw [show (12 : Int) = ((3 : Nat) : Int) * 4 from rfl, parts_same] at this
    exact this
  have H2 : Hid (∀ W, Ok w W → Calls Tryd.prog 9 #[spV ⟨#[]⟩ none 0 0 5 1 0 9] W fun E W' => ∃ v, E = .returned (.tuple #[v, .int .i64 0]) ∧ W'.ownsRow W.heap.size 3 1 v 1 (ints [5]) ∧ Below W.heap.size W W') := Lib.hid fun W hW => by
    have := all_any (c := 0) (hN0 W hW) (T := 5) (lo := 0) (hi := 9) (m := 1) ⟨by decide, by omega, by omega, by omega, by omega, by omega, by omega, by omega, by omega⟩ (one_halved 5 _ 0 9 5 (fun _ _ _ => 0)) ⟨rfl, rfl, rfl⟩
    rw [parts_one] at this
    exact this
  have H3 : Hid (∀ W, Ok w W → Calls Tryd.prog 15 #[spV ⟨#[]⟩ none 0 0 5 1 0 9, .int .i64 1] W fun E W' => E = .returned (.tuple #[.int .i64 5, .int .i64 0]) ∧ Below W.heap.size W W') := Lib.hid fun W hW =>
    before_all (m := 1) ⟨by decide, by omega, by omega, by omega, by omega, by omega, by omega, by omega, by omega⟩
  have H4 : Hid (∀ W, Ok w W → Calls Tryd.prog 17 #[spV ⟨#[]⟩ none 0 0 5 1 0 9, .int .i64 4] W fun E W' => E = .returned (.tuple #[.int .i64 0, .int .i64 4, .int .i64 0]) ∧ Below W.heap.size W W') := Lib.hid fun W hW => by
    have := find_any (c := 0) (hN0 W hW) (T := 5) (lo := 0) (hi := 9) (m := 1) ⟨by decide, by omega, by omega, by omega, by omega, by omega, by omega, by omega, by omega⟩ (one_halved 5 _ 0 9 5 (fun _ _ _ => 0)) ⟨rfl, rfl, rfl⟩ (fun a m t h => by unfold OneI at h; omega) (by omega) 4 (by omega) (by omega) (by rw [desc_end _ _ _ _ _ _ (by omega)]; exact ⟨by omega, by omega⟩)
    rw [desc_end _ _ _ _ _ _ (by omega)] at this
    exact this
  obtain ⟨X, hX⟩ : ∃ X, X = drawV ⟨#[115]⟩ [0, 2] 5 6 := ⟨_, rfl⟩
  have H5 : Hid (∀ W, Ok w W → Calls Tryd.prog 13 #[spV ⟨#[115]⟩ none 0 0 11 2 0 6, .int .i64 0] W fun E W' => E = .returned (.tuple #[.int .i64 X, .int .i64 0]) ∧ Below W.heap.size W W') := Lib.hid fun W hW => by
    have := part_any (c := 0) (hN1 W hW) (T := 11) (lo := 0) (hi := 6) (m := 2) ⟨by decide, by omega, by omega, by omega, by omega, by omega, by omega, by omega, by omega⟩ (two_halved 0 w) (.inl ⟨rfl, rfl, rfl⟩) (fun a m t h => by omega) 0 (by omega) (by omega)
    rw [desc_left (by omega) (by rfl), desc_end _ _ _ _ _ _ (by omega)] at this
    rw [hX]
    exact this
  have H6 : Hid (∀ W A d, Ok w W → Reads W W.heap.size 1 A 2 (ints [0, 2]) → Calls Tryd.prog 28 #[.string ⟨#[115]⟩, .slice A 2 d, .int .i64 5, .int .i64 6] W fun E W' => E = .returned (.tuple #[.int .i64 X, .int .i64 0]) ∧ Below W.heap.size W W') := Lib.hid fun W A d hW hr => by
    rw [hX]
    exact between_any ⟨hr, by intro x hx; simp at hx; unfold I64; omega, by omega, by decide, hW.consts hK h0, hW.pos h0⟩ (by rfl) 5 6 (by omega) (by omega) (.inr rfl)
  have H7 : Hid (∀ W, Calls Tryd.prog 7 #[spV ⟨#[]⟩ none 0 0 7 0 0 9] W fun E W' => E = .returned (.int .i64 5) ∧ Below W.heap.size W W') := Lib.hid validS_none
  clear hX hN0 hN1 hK
  have okw := Ok.refl w
  go_enter Tryd.func19, Tryd.ntmps19
  go_wp2_with fail
  refine (H1.out _ okw).mono ?_
  rintro E w1 ⟨v1, rfl, o1, b1⟩
  have ok1 : Ok w w1 := b1
  obtain ⟨A1, c1, rfl, -⟩ := own_reads1 o1
  go_wp2_with fail
  have okb := ok1.alloc (.cells (spC ⟨#[]⟩ none 0 0 5 1 0 9) 28)
  have kb := Blk.new w1 28 (spC ⟨#[]⟩ none 0 0 5 1 0 9)
  have o2 := o1.alloc (.cells (spC ⟨#[]⟩ none 0 0 5 1 0 9) 28)
  clear o1 b1
  generalize hwb : w1.alloc (.cells (spC ⟨#[]⟩ none 0 0 5 1 0 9) 28) = wb at *
  refine (H2.out _ okb).mono ?_
  rintro E w2 ⟨v2, rfl, p2, b2⟩
  have ok2 := okb.step b2
  have k2 := kb.thru b2
  have o3 := own_below o2 b2
  obtain ⟨A2, c2, rfl, -⟩ := own_reads1 p2
  clear b2 kb o2 okb hwb
  have d0 : w2.cell? ⟨w1.heap.size, 0, none⟩ = some (.string ⟨#[]⟩) := k2.at_ rfl
  have d1 : w2.cell? ⟨w1.heap.size, 1, none⟩ = some (.slice none 0 0) := k2.at_ rfl
  have d2 : w2.cell? ⟨w1.heap.size, 2, none⟩ = some (.int .i64 5) := k2.at_ rfl
  have d3 : w2.cell? ⟨w1.heap.size, 3, none⟩ = some (.int .i64 1) := k2.at_ rfl
  have d4 : w2.cell? ⟨w1.heap.size, 4, none⟩ = some (.int .i64 0) := k2.at_ rfl
  have d5 : w2.cell? ⟨w1.heap.size, 5, none⟩ = some (.int .i64 9) := k2.at_ rfl
  go_wp2_with fail
  refine (H3.out _ ok2).mono ?_
  rintro E w3 ⟨rfl, b3⟩
  have ok3 := ok2.step b3
  have k3 := k2.thru b3
  have o4 := own_below o3 b3
  have p3 := own_below p2 b3
  clear b3 k2 o3 p2 d0 d1 d2 d3 d4 d5
  have d0 : w3.cell? ⟨w1.heap.size, 0, none⟩ = some (.string ⟨#[]⟩) := k3.at_ rfl
  have d1 : w3.cell? ⟨w1.heap.size, 1, none⟩ = some (.slice none 0 0) := k3.at_ rfl
  have d2 : w3.cell? ⟨w1.heap.size, 2, none⟩ = some (.int .i64 5) := k3.at_ rfl
  have d3 : w3.cell? ⟨w1.heap.size, 3, none⟩ = some (.int .i64 1) := k3.at_ rfl
  have d4 : w3.cell? ⟨w1.heap.size, 4, none⟩ = some (.int .i64 0) := k3.at_ rfl
  have d5 : w3.cell? ⟨w1.heap.size, 5, none⟩ = some (.int .i64 9) := k3.at_ rfl
  go_wp2_with fail
  refine (H4.out _ ok3).mono ?_
  rintro E w4 ⟨rfl, b4⟩
  have ok4 := ok3.step b4
  have o5 := own_below o4 b4
  have p4 := own_below p3 b4
  clear b4 k3 o4 p3 d0 d1 d2 d3 d4 d5
  go_wp2_with fail
  refine (H5.out _ ok4).mono ?_
  rintro E w5 ⟨rfl, b5⟩
  have ok5 := ok4.step b5
  have o6 := own_below o5 b5
  have p5 := own_below p4 b5
  clear b5 o5 p4
  go_wp2_with fail
  refine (H6.out _ _ _ (ok5.alloc _) (rd2 w5 0 2).out).mono ?_
  rintro E w6 ⟨rfl, b6⟩
  have ok6 := (ok5.alloc _).step b6
  have o7 := own_below (o6.alloc _) b6
  have p6 := own_below (p5.alloc _) b6
  clear b6 o6 p5
  go_wp2_with fail
  have ok7 := ok6.alloc (.cells #[.int .i64 4, .int .i64 4, .int .i64 4] 3)
  have s1 : Reads (w6.alloc (.cells #[.int .i64 4, .int .i64 4, .int .i64 4] 3)) (w6.alloc (.cells #[.int .i64 4, .int .i64 4, .int .i64 4] 3)).heap.size 1 (some ⟨w6.heap.size, 0, none⟩) 3 (ints [4, 4, 4]) :=
    ⟨rfl, fun _ => ⟨_, rfl, by simp, fun j u hu => by rw [addr_add0]; exact (Blk.new w6 3 _).at_ (by simpa [ints] using hu)⟩⟩
  refine (sameInts_any _ _ _ _ _ _ [4, 4, 4] [4, 4, 4] _ _ (Reads.of_own (o7.alloc _)) s1 (by omega) (by omega)).mono ?_
  rintro E w7 ⟨rfl, q7, rfl⟩
  rw [show decide ([(4 : Int), 4, 4] = [4, 4, 4]) = true by decide]
  have ok8 : Ok w ((w6.alloc (.cells #[.int .i64 4, .int .i64 4, .int .i64 4] 3)).drewN q7) := Ok.drewN ok7 q7
  obtain ⟨B7, p7⟩ : ∃ B, ((w6.alloc (.cells #[.int .i64 4, .int .i64 4, .int .i64 4] 3)).drewN q7).ownsRow B 3 1 (.slice A2 1 c2) 1 (ints [5]) := ⟨_, p6.alloc _⟩
  clear s1 o7 ok7 ok6 p6
  generalize (w6.alloc (.cells #[.int .i64 4, .int .i64 4, .int .i64 4] 3)).drewN q7 = w8 at *
  go_wp2_with fail
  have ok9 := ok8.alloc (.cells #[.int .i64 5] 3)
  have s2 : Reads (w8.alloc (.cells #[.int .i64 5] 3)) (w8.alloc (.cells #[.int .i64 5] 3)).heap.size 1 (some ⟨w8.heap.size, 0, none⟩) 1 (ints [5]) :=
    ⟨rfl, fun _ => ⟨_, rfl, by simp, fun j u hu => by rw [addr_add0]; exact (Blk.new w8 3 _).at_ (by simpa [ints] using hu)⟩⟩
  refine (sameInts_any _ _ _ _ _ _ [5] [5] _ _ (Reads.of_own (p7.alloc _)) s2 (by omega) (by omega)).mono ?_
  rintro E w9 ⟨rfl, q9, rfl⟩
  rw [show decide ([(5 : Int)] = [5]) = true by decide]
  have ok10 : Ok w ((w8.alloc (.cells #[.int .i64 5] 3)).drewN q9) := Ok.drewN ok9 q9
  clear s2 p7 ok8 ok9
  generalize (w8.alloc (.cells #[.int .i64 5] 3)).drewN q9 = w10 at *
  go_wp2_with fail
  refine (H7.out _).mono ?_
  rintro E w11 ⟨rfl, b11⟩
  have ok11 := ok10.step b11
  clear b11 ok10
  go_wp2_with fail
  go_ret
  exact ⟨rfl, ok11⟩
end Go.Proofs.YtnionejefpnfoaaDoor
