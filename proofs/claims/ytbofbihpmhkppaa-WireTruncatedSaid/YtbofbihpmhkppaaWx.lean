/- Plain laws on the codecs of byte strings and lists: round trips, canonical forms, prefixes. Nothing of the program stands here. -/
import Derived.Test.YtbofbihpmhkppaaWv
namespace Go.Proofs.Ytbofbihpmhkppaa
open Go.RowKit

/-- a length that is decoded -/
theorem decC_head {s n : Nat} {r : List UInt8} (hn : n ≤ 1000000000) (hs : 0 < s) (h : n * s ≤ r.length) : decC s (encInt (n : Int) ++ r) = .ok (n, (encInt (n : Int)).length) := by
  unfold decC
  rw [decI_round _ (I64.nat hn)]
  dsimp only
  rw [if_neg (by omega), if_neg, Int.toNat_natCast]
  rw [List.length_append, Nat.add_sub_cancel_left, Int.toNat_natCast]
  have := (Nat.le_div_iff_mul_le hs).2 h
  omega
theorem decC_more {s n : Nat} {r : List UInt8} (hn : n ≤ 1000000000) (hs : 0 < s) (h : r.length < n * s) : decC s (encInt (n : Int) ++ r) = .error 3 := by
  unfold decC
  rw [decI_round _ (I64.nat hn)]
  dsimp only
  rw [if_neg (by omega), if_pos]
  rw [List.length_append, Nat.add_sub_cancel_left, Int.toNat_natCast]
  exact (Nat.div_lt_iff_lt_mul hs).2 h
theorem decC_short {s : Nat} {n : Int} (hn : I64 n) {i : Nat} (hi : i < (encInt n).length) : decC s ((encInt n).take i) = .error 3 := by
  unfold decC; rw [decI_short n hn i hi]
/-- a length that was decoded stands there -/
theorem decC_canon {s : Nat} {b : List UInt8} {n u : Nat} (h : decC s b = .ok (n, u)) (hs : 0 < s) : encInt (n : Int) = b.take u ∧ n * s + u ≤ b.length := by
  obtain ⟨h1, h2⟩ := decC_ok h hs
  exact ⟨(decI_canon _ _ _ h1).2.2.2.2, h2⟩

theorem decB_round (s t : List UInt8) (hs : s.length ≤ 1000000000) : decB (encBytes s ++ t) = .ok (s, (encBytes s).length) := by
  unfold decB encBytes
  rw [List.append_assoc, decC_head hs (by omega) (by rw [List.length_append]; omega)]
  dsimp only
  rw [List.drop_left, List.take_left, List.length_append]
theorem decB_canon {b s : List UInt8} {u : Nat} (h : decB b = .ok (s, u)) : encBytes s = b.take u ∧ u ≤ b.length ∧ s.length ≤ b.length := by
  unfold decB at h
  cases hc : decC 1 b with
  | error e => rw [hc] at h; simp at h
  | ok q =>
    obtain ⟨n, v⟩ := q
    rw [hc] at h
    simp only [Except.ok.injEq, Prod.mk.injEq] at h
    obtain ⟨rfl, rfl⟩ := h
    obtain ⟨h1, h2⟩ := decC_canon hc (by omega)
    have hl : ((b.drop v).take n).length = n := by simp; omega
    refine ⟨?_, by omega, by omega⟩
    unfold encBytes
    rw [hl, h1, List.take_add]
theorem decB_short (s : List UInt8) (hs : s.length ≤ 1000000000) (i : Nat) (hi : i < (encBytes s).length) : decB ((encBytes s).take i) = .error 3 := by
  unfold decB encBytes
  unfold encBytes at hi
  rw [List.length_append] at hi
  by_cases h : i < (encInt (s.length : Int)).length
  · rw [List.take_append_of_le_length (by omega), decC_short (I64.nat hs) h]
  · rw [List.take_append, List.take_of_length_le (by omega), decC_more hs (by omega) (by rw [List.length_take]; omega)]

theorem decD_round (n : Nat) (l t : List UInt8) (hn : n ≤ 1000000000) (hl : l.length = n * 16) : decD (encDigs n l ++ t) = .ok (l, n, (encDigs n l).length) := by
  unfold decD encDigs
  rw [List.append_assoc, decC_head hn (by omega) (by rw [List.length_append]; omega)]
  dsimp only
  rw [List.drop_left, show 16 * n = l.length by omega, List.take_left, List.length_append]
theorem decD_canon {b l : List UInt8} {n u : Nat} (h : decD b = .ok (l, n, u)) : encDigs n l = b.take u ∧ u ≤ b.length := by
  unfold decD at h
  cases hc : decC 16 b with
  | error e => rw [hc] at h; simp at h
  | ok q =>
    obtain ⟨m, v⟩ := q
    rw [hc] at h
    simp only [Except.ok.injEq, Prod.mk.injEq] at h
    obtain ⟨rfl, rfl, rfl⟩ := h
    obtain ⟨h1, h2⟩ := decC_canon hc (by omega)
    refine ⟨?_, by omega⟩
    unfold encDigs
    rw [h1, List.take_add]
theorem decD_short (n : Nat) (l : List UInt8) (hn : n ≤ 1000000000) (hl : l.length = n * 16) (i : Nat) (hi : i < (encDigs n l).length) : decD ((encDigs n l).take i) = .error 3 := by
  unfold decD encDigs
  unfold encDigs at hi
  rw [List.length_append] at hi
  by_cases h : i < (encInt (n : Int)).length
  · rw [List.take_append_of_le_length (by omega), decC_short (I64.nat hn) h]
  · rw [List.take_append, List.take_of_length_le (by omega), decC_more hn (by omega) (by rw [List.length_take]; omega)]

section
variable {α : Type} {f : List UInt8 → Except Nat (α × Nat)} {enc : α → List UInt8}
theorem decN_round (l : List α) (hr : ∀ x ∈ l, ∀ t, f (enc x ++ t) = .ok (x, (enc x).length)) (t : List UInt8) : ∀ (b : List UInt8) (at_ : Nat), b.drop at_ = l.flatMap enc ++ t → decN f b l.length at_ = .ok (l, at_ + (l.flatMap enc).length) := by
  induction l with
  | nil => intro b at_ _; simp [decN]
  | cons x l ih =>
    intro b at_ hb
    rw [List.flatMap_cons, List.append_assoc] at hb
    rw [List.length_cons, decN, hb, hr x (by simp)]
    dsimp only
    rw [ih (fun y hy => hr y (by simp [hy])) b (at_ + (enc x).length) (by rw [← List.drop_drop, hb, List.drop_left])]
    dsimp only
    rw [List.flatMap_cons, List.length_append, Nat.add_assoc]
theorem flat_ge (l : List α) (h1 : ∀ x ∈ l, 1 ≤ (enc x).length) : l.length ≤ (l.flatMap enc).length := by
  induction l with
  | nil => simp
  | cons x l ih =>
    rw [List.flatMap_cons, List.length_append, List.length_cons]
    have := h1 x (by simp)
    have := ih fun y hy => h1 y (by simp [hy])
    omega
theorem decL_round (l : List α) (hn : l.length ≤ 1000000000) (hr : ∀ x ∈ l, ∀ t, f (enc x ++ t) = .ok (x, (enc x).length)) (h1 : ∀ x ∈ l, 1 ≤ (enc x).length) (t : List UInt8) :
    decL f (encInt (l.length : Int) ++ l.flatMap enc ++ t) = .ok (l, (encInt (l.length : Int) ++ l.flatMap enc).length) := by
  have hg := flat_ge l h1
  rw [List.append_assoc]
  unfold decL
  rw [decC_head hn (by omega) (by rw [List.length_append]; omega)]
  dsimp only
  rw [decN_round l hr t _ _ (by rw [List.drop_left]), List.length_append]
theorem decN_canon (hc : ∀ b x u, f b = .ok (x, u) → enc x = b.take u ∧ u ≤ b.length) {b : List UInt8} : ∀ {k at_ : Nat} {l : List α} {z : Nat}, decN f b k at_ = .ok (l, z) → at_ ≤ b.length →
    at_ ≤ z ∧ z ≤ b.length ∧ l.flatMap enc = (b.drop at_).take (z - at_)
  | 0, at_, l, z, h, hb => by
    simp [decN] at h
    obtain ⟨rfl, rfl⟩ := h
    exact ⟨Nat.le_refl _, hb, by simp⟩
  | k + 1, at_, l, z, h, hb => by
    unfold decN at h
    cases hf : f (b.drop at_) with
    | error e => rw [hf] at h; simp at h
    | ok q =>
      obtain ⟨x, u⟩ := q
      rw [hf] at h
      dsimp only at h
      obtain ⟨h1, h2⟩ := hc _ _ _ hf
      rw [List.length_drop] at h2
      cases hn : decN f b k (at_ + u) with
      | error e => rw [hn] at h; simp at h
      | ok q =>
        obtain ⟨r, z'⟩ := q
        rw [hn] at h
        simp only [Except.ok.injEq, Prod.mk.injEq] at h
        obtain ⟨rfl, rfl⟩ := h
        obtain ⟨h3, h4, h5⟩ := decN_canon hc hn (by omega)
        refine ⟨by omega, h4, ?_⟩
        rw [List.flatMap_cons, h1, h5, ← List.drop_drop, show z' - at_ = u + (z' - (at_ + u)) by omega, List.take_add]
theorem decL_canon (hc : ∀ b x u, f b = .ok (x, u) → enc x = b.take u ∧ u ≤ b.length) {b : List UInt8} {l : List α} {z : Nat} (h : decL f b = .ok (l, z)) : encInt (l.length : Int) ++ l.flatMap enc = b.take z ∧ z ≤ b.length := by
  unfold decL at h
  cases hC : decC 1 b with
  | error e => rw [hC] at h; simp at h
  | ok q =>
    obtain ⟨n, u⟩ := q
    rw [hC] at h
    dsimp only at h
    obtain ⟨h1, h2⟩ := decC_canon hC (by omega)
    obtain ⟨h3, h4, h5⟩ := decN_canon hc h (by omega)
    rw [decN_length h, h1, h5]
    refine ⟨?_, h4⟩
    conv => rhs; rw [show z = u + (z - u) by omega, List.take_add]
theorem decN_short (l : List α) (hr : ∀ x ∈ l, ∀ t, f (enc x ++ t) = .ok (x, (enc x).length)) (hs : ∀ x ∈ l, ∀ i, i < (enc x).length → f ((enc x).take i) = .error 3) : ∀ (b : List UInt8) (at_ i : Nat), i < (l.flatMap enc).length → b.drop at_ = (l.flatMap enc).take i → decN f b l.length at_ = .error 3 := by
  induction l with
  | nil => intro b at_ i hi; simp at hi
  | cons x l ih =>
    intro b at_ i hi hb
    rw [List.flatMap_cons, List.length_append] at hi
    rw [List.flatMap_cons] at hb
    rw [List.length_cons, decN]
    by_cases h : i < (enc x).length
    · rw [hb, List.take_append_of_le_length (by omega), hs x (by simp) i h]
    · rw [List.take_append, List.take_of_length_le (by omega)] at hb
      rw [hb, hr x (by simp)]
      dsimp only
      rw [ih (fun y hy => hr y (by simp [hy])) (fun y hy => hs y (by simp [hy])) b (at_ + (enc x).length) (i - (enc x).length) (by omega) (by rw [← List.drop_drop, hb, List.drop_left])]
theorem decL_short (l : List α) (hn : l.length ≤ 1000000000) (hr : ∀ x ∈ l, ∀ t, f (enc x ++ t) = .ok (x, (enc x).length)) (hs : ∀ x ∈ l, ∀ i, i < (enc x).length → f ((enc x).take i) = .error 3)
    (i : Nat) (hi : i < (encInt (l.length : Int) ++ l.flatMap enc).length) : decL f ((encInt (l.length : Int) ++ l.flatMap enc).take i) = .error 3 := by
  unfold decL
  rw [List.length_append] at hi
  by_cases h : i < (encInt (l.length : Int)).length
  · rw [List.take_append_of_le_length (by omega), decC_short (I64.nat hn) h]
  · rw [List.take_append, List.take_of_length_le (by omega)]
    by_cases hq : ((l.flatMap enc).take (i - (encInt (l.length : Int)).length)).length < l.length
    · rw [decC_more hn (by omega) (by omega)]
    · rw [decC_head hn (by omega) (by omega)]
      dsimp only
      exact decN_short l hr hs _ _ (i - (encInt (l.length : Int)).length) (by omega) (by rw [List.drop_left])
end

theorem ba_eta (s : ByteArray) : (⟨s.data.toList.toArray⟩ : ByteArray) = s := by cases s; simp
theorem decS_round (s : ByteArray) (t : List UInt8) (hs : s.size ≤ 1000000000) : decS (encBytes s.data.toList ++ t) = .ok (s, (encBytes s.data.toList).length) := by
  unfold decS
  rw [decB_round _ _ (by rw [size_list]; exact hs)]
theorem decS_short (s : ByteArray) (hs : s.size ≤ 1000000000) (i : Nat) (hi : i < (encBytes s.data.toList).length) : decS ((encBytes s.data.toList).take i) = .error 3 := by
  unfold decS
  rw [decB_short _ (by rw [size_list]; exact hs) i hi]
theorem decS_canon (b : List UInt8) (s : ByteArray) (u : Nat) (h : decS b = .ok (s, u)) : encBytes s.data.toList = b.take u ∧ u ≤ b.length := by
  obtain ⟨t, h1, rfl, -⟩ := decS_ok h
  obtain ⟨h2, h3, -⟩ := decB_canon h1
  exact ⟨by simpa using h2, h3⟩
theorem encBytes_pos (l : List UInt8) : 1 ≤ (encBytes l).length := by
  unfold encBytes; rw [List.length_append, encInt_length]; omega
theorem cat_flat (l : List Int) : cat l = l.flatMap encInt := rfl
theorem ints_round (l : List Int) (t : List UInt8) (hn : l.length ≤ 1000000000) (hI : ∀ x ∈ l, I64 x) : decL decI (encInts l ++ t) = .ok (l, (encInts l).length) :=
  decL_round l hn (fun x hx t => decI_round x (hI x hx) t) (fun x _ => by rw [encInt_length]; omega) t
theorem ints_short (l : List Int) (hn : l.length ≤ 1000000000) (hI : ∀ x ∈ l, I64 x) (i : Nat) (hi : i < (encInts l).length) : decL decI ((encInts l).take i) = .error 3 :=
  decL_short l hn (fun x hx t => decI_round x (hI x hx) t) (fun x hx i hi => decI_short x (hI x hx) i hi) i hi
theorem ints_canon {b : List UInt8} {l : List Int} {z : Nat} (h : decL decI b = .ok (l, z)) : encInts l = b.take z ∧ z ≤ b.length :=
  decL_canon (enc := encInt) (fun b x u h => ⟨(decI_canon b x u h).2.2.2.2, (decI_canon b x u h).2.2.2.1⟩) h
theorem strs_round (l : List ByteArray) (t : List UInt8) (hI : sizes l ≤ 1000000000) : decL decS (encStrs l ++ t) = .ok (l, (encStrs l).length) :=
  decL_round (enc := fun s : ByteArray => encBytes s.data.toList) l (by have := sizes_len l; omega) (fun x hx t => decS_round x t (by have := sizes_mem hx; omega)) (fun x _ => encBytes_pos _) t
theorem strs_short (l : List ByteArray) (hI : sizes l ≤ 1000000000) (i : Nat) (hi : i < (encStrs l).length) : decL decS ((encStrs l).take i) = .error 3 :=
  decL_short (enc := fun s : ByteArray => encBytes s.data.toList) l (by have := sizes_len l; omega) (fun x hx t => decS_round x t (by have := sizes_mem hx; omega)) (fun x hx i hi => decS_short x (by have := sizes_mem hx; omega) i hi) i hi
theorem strs_canon {b : List UInt8} {l : List ByteArray} {z : Nat} (h : decL decS b = .ok (l, z)) : encStrs l = b.take z ∧ z ≤ b.length :=
  decL_canon (enc := fun s : ByteArray => encBytes s.data.toList) decS_canon h
end Go.Proofs.Ytbofbihpmhkppaa
