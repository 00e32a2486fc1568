/- Where the places of a split and its units lead: plain laws over the parts of a node. Plain; conditions: the ranges that the theorems state. -/
import Derived.Test.YtkchalnohkfhbaaDoorVn
set_option linter.unusedSimpArgs false
set_option linter.unusedVariables false
namespace Go.Proofs.YtkchalnohkfhbaaDoor
open Go.RowKit Go.Shelf Go

/-- the part at a place, and the sum of the parts before it -/
def at_ (L : List Int) (j : Nat) : Int := L[j]?.getD 0
def bef (L : List Int) (j : Nat) : Int := (L.take j).sum
theorem at_left {L M : List Int} {j : Nat} (h : j < L.length) : at_ (L ++ M) j = at_ L j := by
  unfold at_
  rw [List.getElem?_append_left h]
theorem at_right {L M : List Int} {j : Nat} (h : L.length ≤ j) : at_ (L ++ M) j = at_ M (j - L.length) := by
  unfold at_
  rw [List.getElem?_append_right h]
theorem bef_left {L M : List Int} {j : Nat} (h : j ≤ L.length) : bef (L ++ M) j = bef L j := by
  unfold bef
  rw [List.take_append_of_le_length h]
theorem bef_right {L M : List Int} {j : Nat} (h : L.length ≤ j) : bef (L ++ M) j = L.sum + bef M (j - L.length) := by
  unfold bef
  rw [List.take_append, List.take_of_length_le h, List.sum_append]
theorem bef_zero (L : List Int) : bef L 0 = 0 := by unfold bef; simp
theorem bef_next (L : List Int) (j : Nat) (h : j < L.length) : bef L (j + 1) = bef L j + at_ L j := by
  unfold bef at_
  rw [List.take_add_one, List.getElem?_eq_getElem h, List.sum_append]
  simp
theorem bef_all (L : List Int) : bef L L.length = L.sum := by unfold bef; rw [List.take_length]
theorem atp_mem {L : List Int} {j : Nat} (h : j < L.length) : at_ L j ∈ L := by
  unfold at_
  rw [List.getElem?_eq_getElem h]
  exact List.getElem_mem _
theorem bef_mono {L : List Int} (h : ∀ y ∈ L, 0 ≤ y) {i j : Nat} (hij : i ≤ j) (hj : j ≤ L.length) : bef L i ≤ bef L j := by
  induction j with
  | zero =>
    have : i = 0 := by omega
    subst this
    exact Int.le_refl _
  | succ j ih =>
    by_cases e : i = j + 1
    · subst e; exact Int.le_refl _
    · have h1 := ih (by omega) (by omega)
      rw [bef_next L j (by omega)]
      have h2 := h _ (atp_mem (L := L) (j := j) (by omega))
      omega
theorem bef_bound {L : List Int} {lo hi : Int} (h : ∀ y ∈ L, lo ≤ y ∧ y ≤ hi) (j : Nat) (hj : j ≤ L.length) : (j : Int) * lo ≤ bef L j ∧ bef L j ≤ (j : Int) * hi := by
  induction j with
  | zero => rw [bef_zero]; simp
  | succ j ih =>
    obtain ⟨h1, h2⟩ := ih (by omega)
    obtain ⟨h3, h4⟩ := h _ (atp_mem (L := L) (j := j) (by omega))
    rw [bef_next L j (by omega)]
    have e1 : ((j + 1 : Nat) : Int) * lo = (j : Int) * lo + lo := by rw [Int.natCast_add, Int.add_mul]; simp
    have e2 : ((j + 1 : Nat) : Int) * hi = (j : Int) * hi + hi := by rw [Int.natCast_add, Int.add_mul]; simp
    rw [e1, e2]
    generalize (j : Int) * lo = x at *
    generalize (j : Int) * hi = y at *
    omega
/-- a unit lies in one part alone -/
theorem bef_one {L : List Int} (h : ∀ y ∈ L, 0 ≤ y) {i k : Nat} {x : Int} (hi : i < L.length) (hk : k < L.length) (h1 : bef L i ≤ x) (h2 : x < bef L i + at_ L i) (h3 : bef L k ≤ x) (h4 : x < bef L k + at_ L k) : i = k := by
  rw [← bef_next L i hi] at h2
  rw [← bef_next L k hk] at h4
  rcases Nat.lt_trichotomy i k with c | c | c
  · have := bef_mono h (i := i + 1) (j := k) (by omega) (by omega)
    omega
  · exact c
  · have := bef_mono h (i := k + 1) (j := i) (by omega) (by omega)
    omega
section
variable (D : Nat → Nat → Int → Int)
theorem parts_sum (n : Nat) : ∀ (a : Nat) (t : Int), 1 ≤ n → (parts D a n t).sum = t := by
  induction n using Nat.strongRecOn with
  | ind n ih =>
    intro a t h
    by_cases h2 : 2 ≤ n
    · rw [parts_two D a n t h2, List.sum_append, ih _ (by omega) _ _ (by omega), ih _ (by omega) _ _ (by omega)]
      omega
    · have : n = 1 := by omega
      subst this
      rw [parts_one]
      simp
theorem desc_to (n : Nat) : ∀ (a : Nat) (t b : Int) (k : Nat), k < n → desc D (pTo ((a + k : Nat) : Int)) a n t b = ((a + k, 1, at_ (parts D a n t) k), b + bef (parts D a n t) k) := by
  induction n using Nat.strongRecOn with
  | ind n ih =>
    intro a t b k hk
    by_cases h2 : 2 ≤ n
    · rw [parts_two D a n t h2]
      have hl := parts_len D (n / 2) a (D a n t)
      by_cases hc : k < n / 2
      · rw [desc_left h2 (by unfold pTo; exact decide_eq_true (by show ((a + k : Nat) : Int) < ((a + n / 2 : Nat) : Int); omega)), ih _ (by omega) _ _ _ _ hc, at_left (by omega), bef_left (by omega)]
      · rw [desc_right h2 (by unfold pTo; exact decide_eq_false (by show ¬ ((a + k : Nat) : Int) < ((a + n / 2 : Nat) : Int); omega))]
        have := ih (n - n / 2) (by omega) (a + n / 2) (t - D a n t) (b + D a n t) (k - n / 2) (by omega)
        rw [show a + n / 2 + (k - n / 2) = a + k by omega] at this
        rw [this, at_right (by omega), bef_right (by omega), hl, parts_sum D _ _ _ (by omega), Int.add_assoc]
    · have : n = 1 := by omega
      subst this
      have : k = 0 := by omega
      subst this
      rw [desc_end D _ a 1 t b (by omega), parts_one, bef_zero]
      simp [at_]
theorem desc_find (x : Int) (n : Nat) : ∀ (a : Nat) (t b : Int), 1 ≤ n → b ≤ x → x < b + t → ∃ k, k < n ∧ desc D (pFind x) a n t b = ((a + k, 1, at_ (parts D a n t) k), b + bef (parts D a n t) k) ∧
    b + bef (parts D a n t) k ≤ x ∧ x < b + bef (parts D a n t) k + at_ (parts D a n t) k := by
  induction n using Nat.strongRecOn with
  | ind n ih =>
    intro a t b h1 hb hx
    by_cases h2 : 2 ≤ n
    · rw [parts_two D a n t h2]
      have hl := parts_len D (n / 2) a (D a n t)
      by_cases hc : x < b + D a n t
      · rw [desc_left h2 (by unfold pFind; exact decide_eq_true hc)]
        obtain ⟨k, q1, q2, q3, q4⟩ := ih (n / 2) (by omega) a (D a n t) b (by omega) hb hc
        refine ⟨k, by omega, ?_⟩
        rw [at_left (by omega), bef_left (by omega)]
        exact ⟨q2, q3, q4⟩
      · rw [desc_right h2 (by unfold pFind; exact decide_eq_false hc)]
        obtain ⟨k, q1, q2, q3, q4⟩ := ih (n - n / 2) (by omega) (a + n / 2) (t - D a n t) (b + D a n t) (by omega) (by omega) (by omega)
        refine ⟨n / 2 + k, by omega, ?_⟩
        rw [at_right (by omega), bef_right (by omega), hl, parts_sum D _ _ _ (by omega), show n / 2 + k - n / 2 = k by omega, ← Int.add_assoc, ← Nat.add_assoc]
        exact ⟨q2, q3, q4⟩
    · have : n = 1 := by omega
      subst this
      refine ⟨0, by omega, ?_⟩
      rw [desc_end D _ a 1 t b (by omega), parts_one, bef_zero]
      simp [at_]
      omega
end
theorem parts_bound {s : ByteArray} {p : List Int} {lo hi : Int} (hlh : lo ≤ hi) (n : Nat) : ∀ (a : Nat) (t : Int), (n : Int) * lo ≤ t → t ≤ (n : Int) * hi → ∀ y ∈ parts (leftV s p lo hi) a n t, lo ≤ y ∧ y ≤ hi := by
  induction n using Nat.strongRecOn with
  | ind n ih =>
    intro a t h0 h1 y hy
    by_cases h : 2 ≤ n
    · rw [parts_two _ a n _ h] at hy
      obtain ⟨c1, -, c3⟩ := half_bounds hlh h0 h1
      have hd := drawV_in s (p ++ [(a : Int), (n : Int)]) c1
      obtain ⟨d1, d2, d3, d4⟩ := c3 _ hd.1 hd.2
      rcases List.mem_append.1 hy with hy | hy
      · exact ih _ (by omega) a _ d1 d2 y hy
      · exact ih _ (by omega) _ _ d3 d4 y hy
    · rcases (show n = 0 ∨ n = 1 by omega) with rfl | rfl
      · rw [parts_none] at hy; cases hy
      · rw [parts_one, List.mem_singleton] at hy
        subst hy
        omega
/- the walks answers, by places -/
section
variable {s : ByteArray} {A : Option Addr} {n c : Nat} {l : List Int} {w : World} {T lo hi : Int} {m : Nat} {D : Nat → Nat → Int → Int} {I : Nat → Nat → Int → Prop}
theorem part_at (h : Net s A n l w) (hO : SOk s n T (m : Int) lo hi) (H : Halved s A n c l T (m : Int) lo hi D I) (hI : I 0 m T) (hT : ∀ a m t, I a m t → -68719476736 ≤ t ∧ t ≤ 68719476736) (k : Nat) (hk : k < m) :
    Calls Tryd.prog 11 #[spV s A n c T (m : Int) lo hi, .int .i64 (k : Int)] w fun E W' => E = .returned (.tuple #[.int .i64 (at_ (parts D 0 m T) k), .int .i64 0]) ∧ Below w.heap.size w W' := by
  have := part_any h hO H hI hT (k : Int) (by omega) (by omega)
  have e := desc_to D m 0 T 0 k hk
  rw [Nat.zero_add] at e
  rw [e] at this
  exact this
theorem before_at (h : Net s A n l w) (hO : SOk s n T (m : Int) lo hi) (H : Halved s A n c l T (m : Int) lo hi D I) (hI : I 0 m T) (hT : ∀ a m t, I a m t → -68719476736 ≤ t ∧ t ≤ 68719476736) (k : Nat) (hk : k ≤ m) (hm : m = 0 → T = 0) :
    Calls Tryd.prog 10 #[spV s A n c T (m : Int) lo hi, .int .i64 (k : Int)] w fun E W' => E = .returned (.tuple #[.int .i64 (bef (parts D 0 m T) k), .int .i64 0]) ∧ Below w.heap.size w W' := by
  by_cases hk' : k < m
  · have := before_any h hO H hI hT (k : Int) (by omega) (by omega)
    have e := desc_to D m 0 T 0 k hk'
    rw [Nat.zero_add] at e
    rw [e, Int.zero_add] at this
    exact this
  · have hkm : k = m := by omega
    subst hkm
    have := before_all (A := A) (c := c) (w := w) hO
    rw [show bef (parts D 0 k T) k = T by
      by_cases h1 : 1 ≤ k
      · have e := bef_all (parts D 0 k T)
        rw [parts_len] at e
        rw [e, parts_sum D k 0 T h1]
      · have : k = 0 := by omega
        rw [hm this, this, bef_zero]]
    exact this
theorem find_at (h : Net s A n l w) (hO : SOk s n T (m : Int) lo hi) (H : Halved s A n c l T (m : Int) lo hi D I) (hI : I 0 m T) (hT : ∀ a m t, I a m t → -68719476736 ≤ t ∧ t ≤ 68719476736) (hlo : 0 ≤ lo) (hP : ∀ y ∈ parts D 0 m T, 0 ≤ y) (x : Int) (hx0 : 0 ≤ x) (hx1 : x < T) (hm : 1 ≤ m) :
    ∃ k, k < m ∧ bef (parts D 0 m T) k ≤ x ∧ x < bef (parts D 0 m T) k + at_ (parts D 0 m T) k ∧
    Calls Tryd.prog 15 #[spV s A n c T (m : Int) lo hi, .int .i64 x] w fun E W' => E = .returned (.tuple #[.int .i64 (k : Int), .int .i64 (x - bef (parts D 0 m T) k), .int .i64 0]) ∧ Below w.heap.size w W' := by
  obtain ⟨k, q1, q2, q3, q4⟩ := desc_find D x m 0 T 0 hm hx0 (by omega)
  rw [Nat.zero_add, Int.zero_add] at q2
  rw [Int.zero_add] at q3 q4
  refine ⟨k, q1, q3, q4, ?_⟩
  have hb := bef_mono hP (i := 0) (j := k) (by omega) (by rw [parts_len]; omega)
  rw [bef_zero] at hb
  have hT0 := hT 0 m T hI
  have := find_any h hO H hI hT hlo x hx0 hx1 (by rw [q2]; exact ⟨hb, by omega⟩)
  rw [q2] at this
  exact this
end
end Go.Proofs.YtkchalnohkfhbaaDoor
