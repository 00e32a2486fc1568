/- Plain laws of the link: the codecs' round trips, the seal, sealed bytes, packets. Nothing of the program stands here. -/
import Derived.Test.YtbekkndkdfmijaaWm
set_option linter.unusedSimpArgs false
set_option linter.unusedVariables false
namespace Go.Proofs.Ytbekkndkdfmijaa
open Go.RowKit

/-- a length that is decoded -/
theorem decC_head {s n : Nat} {r : List UInt8} (hn : n ≤ 1000000000) (hs : 0 < s) (h : n * s ≤ r.length) : decC s (encInt (n : Int) ++ r) = .ok (n, (encInt (n : Int)).length) := by
  unfold decC
  rw [decI_round _ (I64.nat hn)]
  dsimp only
  rw [if_neg (by omega), if_neg, Int.toNat_natCast]
  rw [List.length_append, Nat.add_sub_cancel_left, Int.toNat_natCast]
  have := (Nat.le_div_iff_mul_le hs).2 h
  omega
theorem decB_round (s t : List UInt8) (hs : s.length ≤ 1000000000) : decB (encBytes s ++ t) = .ok (s, (encBytes s).length) := by
  unfold decB encBytes
  rw [List.append_assoc, decC_head hs (by omega) (by rw [List.length_append]; omega)]
  dsimp only
  rw [List.drop_left, List.take_left, List.length_append]
section
variable {α : Type} {f : List UInt8 → Except Nat (α × Nat)} {enc : α → List UInt8}
theorem decN_round (l : List α) (hr : ∀ x ∈ l, ∀ t, f (enc x ++ t) = .ok (x, (enc x).length)) (t : List UInt8) : ∀ (b : List UInt8) (at_ : Nat), b.drop at_ = l.flatMap enc ++ t → decN f b l.length at_ = .ok (l, at_ + (l.flatMap enc).length) := by
  induction l with
  | nil => intro b at_ _; simp [decN]
  | cons x l ih =>
    intro b at_ hb
    rw [List.flatMap_cons, List.append_assoc] at hb
    rw [List.length_cons, decN, hb, hr x (by simp)]
    dsimp only
    rw [ih (fun y hy => hr y (by simp [hy])) b (at_ + (enc x).length) (by rw [← List.drop_drop, hb, List.drop_left])]
    dsimp only
    rw [List.flatMap_cons, List.length_append, Nat.add_assoc]
theorem flat_ge (l : List α) (h1 : ∀ x ∈ l, 1 ≤ (enc x).length) : l.length ≤ (l.flatMap enc).length := by
  induction l with
  | nil => simp
  | cons x l ih =>
    rw [List.flatMap_cons, List.length_append, List.length_cons]
    have := h1 x (by simp)
    have := ih fun y hy => h1 y (by simp [hy])
    omega
theorem decL_round (l : List α) (hn : l.length ≤ 1000000000) (hr : ∀ x ∈ l, ∀ t, f (enc x ++ t) = .ok (x, (enc x).length)) (h1 : ∀ x ∈ l, 1 ≤ (enc x).length) (t : List UInt8) :
    decL f (encInt (l.length : Int) ++ l.flatMap enc ++ t) = .ok (l, (encInt (l.length : Int) ++ l.flatMap enc).length) := by
  have hg := flat_ge l h1
  rw [List.append_assoc]
  unfold decL
  rw [decC_head hn (by omega) (by rw [List.length_append]; omega)]
  dsimp only
  rw [decN_round l hr t _ _ (by rw [List.drop_left]), List.length_append]
end
theorem encBytes_pos (l : List UInt8) : 1 ≤ (encBytes l).length := by
  unfold encBytes; rw [List.length_append, encInt_length]; omega
theorem cat_flat (l : List Int) : cat l = l.flatMap encInt := rfl
theorem ints_round (l : List Int) (t : List UInt8) (hn : l.length ≤ 1000000000) (hI : ∀ x ∈ l, I64 x) : decL decI (encInts l ++ t) = .ok (l, (encInts l).length) :=
  decL_round l hn (fun x hx t => decI_round x (hI x hx) t) (fun x _ => by rw [encInt_length]; omega) t

/-! ### the seal -/
/-- one byte more -/
def sstep (h c : Nat) : Nat := ((h ^^^ c) * 1099511628211) % 18446744073709551616
def sealH (k : Nat) (l : List UInt8) : Nat := l.foldl (fun h c => sstep h c.toNat) (14695981039346656037 ^^^ k)
theorem sstep_lt (h c : Nat) : sstep h c < 18446744073709551616 := Nat.mod_lt _ (by decide)
theorem fold_lt (l : List UInt8) : ∀ h, h < 18446744073709551616 → l.foldl (fun h c => sstep h c.toNat) h < 18446744073709551616 := by
  induction l with
  | nil => intro h hh; exact hh
  | cons c l ih => intro h hh; exact ih _ (sstep_lt _ _)
theorem xor_lt64 {a b : Nat} (ha : a < 18446744073709551616) (hb : b < 18446744073709551616) : a ^^^ b < 18446744073709551616 := Nat.xor_lt_two_pow (n := 64) ha hb
theorem sealH_lt {k : Nat} (l : List UInt8) (hk : k < 18446744073709551616) : sealH k l < 18446744073709551616 := fold_lt l _ (xor_lt64 (by decide) hk)
theorem sealH_take {k : Nat} (l : List UInt8) {j : Nat} (hj : j < l.length) : sealH k (l.take (j + 1)) = sstep (sealH k (l.take j)) (l[j]?.getD 0).toNat := by
  unfold sealH
  rw [List.take_succ_eq_append_getElem hj, List.foldl_append, List.getElem?_eq_getElem hj, List.foldl_cons, List.foldl_nil, Option.getD_some]
theorem sealH_nil (k : Nat) : sealH k [] = 14695981039346656037 ^^^ k := rfl
/-- the seal's bytes, the low ones first -/
abbrev sealB (k : Nat) (l : List UInt8) : List UInt8 := lowTo (sealH k l) 8
/-- SEALED BYTES -/
def sealL (k : Nat) (l : List UInt8) : List UInt8 := l ++ sealB k l
theorem sealL_length (k : Nat) (l : List UInt8) : (sealL k l).length = l.length + 8 := by unfold sealL; rw [List.length_append, lowTo_length]
/-- what was sealed, or the error -/
def openL (k : Nat) (l : List UInt8) : Except Nat (List UInt8) :=
  if l.length < 8 then .error 2 else if sealB k (l.take (l.length - 8)) = l.drop (l.length - 8) then .ok (l.take (l.length - 8)) else .error 9
theorem open_seal (k : Nat) (l : List UInt8) : openL k (sealL k l) = .ok l := by
  unfold openL
  rw [if_neg (by rw [sealL_length]; omega), sealL_length, Nat.add_sub_cancel]
  unfold sealL
  rw [List.take_left, List.drop_left, if_pos rfl]
theorem mul_cancel {a b : Nat} (ha : a < 18446744073709551616) (hb : b < 18446744073709551616) (h : a * 1099511628211 % 18446744073709551616 = b * 1099511628211 % 18446744073709551616) : a = b := by
  have e : ∀ x, x < 18446744073709551616 → x * 1099511628211 % 18446744073709551616 * 14886173955864302971 % 18446744073709551616 = x := fun x hx => by
    rw [Nat.mod_mul_mod, Nat.mul_assoc, Nat.mul_mod, show 1099511628211 * 14886173955864302971 % 18446744073709551616 = 1 from by decide, Nat.mul_one, Nat.mod_mod, Nat.mod_eq_of_lt hx]
  rw [← e a ha, ← e b hb, h]
theorem xor_cancel {a b c : Nat} (h : a ^^^ c = b ^^^ c) : a = b := by
  have := congrArg (· ^^^ c) h
  simpa [Nat.xor_assoc] using this
theorem sstep_left {a b c : Nat} (ha : a < 18446744073709551616) (hb : b < 18446744073709551616) (hc : c < 18446744073709551616) (h : sstep a c = sstep b c) : a = b :=
  xor_cancel (mul_cancel (xor_lt64 ha hc) (xor_lt64 hb hc) h)
theorem sstep_right {a c d : Nat} (ha : a < 18446744073709551616) (hc : c < 18446744073709551616) (hd : d < 18446744073709551616) (h : sstep a c = sstep a d) : c = d := by
  have := mul_cancel (xor_lt64 ha hc) (xor_lt64 ha hd) h
  rw [Nat.xor_comm a c, Nat.xor_comm a d] at this
  exact xor_cancel this
theorem u8_64 (c : UInt8) : c.toNat < 18446744073709551616 := by have := c.toNat_lt; omega
theorem fold_inj (l : List UInt8) : ∀ a b, a < 18446744073709551616 → b < 18446744073709551616 → l.foldl (fun h c => sstep h c.toNat) a = l.foldl (fun h c => sstep h c.toNat) b → a = b := by
  induction l with
  | nil => intro a b _ _ h; exact h
  | cons c l ih => intro a b ha hb h; exact sstep_left ha hb (u8_64 c) (ih _ _ (sstep_lt _ _) (sstep_lt _ _) h)
/-- one byte replaced by another one changes the seal -/
theorem sealH_set {k : Nat} (hk : k < 18446744073709551616) (l : List UInt8) (j : Nat) (hj : j < l.length) (c : UInt8) (hc : l[j]? ≠ some c) : sealH k (l.set j c) ≠ sealH k l := by
  intro h
  have e1 : l = l.take j ++ (l[j] :: l.drop (j + 1)) := by rw [List.getElem_cons_drop, List.take_append_drop]
  have e2 : l.set j c = l.take j ++ (c :: l.drop (j + 1)) := List.set_eq_take_append_cons_drop .. |>.trans (if_pos hj)
  unfold sealH at h
  rw [e2] at h
  conv at h => rhs; rw [e1]
  rw [List.foldl_append, List.foldl_append, List.foldl_cons, List.foldl_cons] at h
  have hh := fold_lt (l.take j) (14695981039346656037 ^^^ k) (xor_lt64 (by decide) hk)
  have h1 := fold_inj _ _ _ (sstep_lt _ _) (sstep_lt _ _) h
  have h2 := UInt8.toNat_inj.1 (sstep_right hh (u8_64 _) (u8_64 _) h1)
  exact hc (by rw [List.getElem?_eq_getElem hj, h2])
theorem lowTo_inj (i : Nat) : ∀ m m', m < 256 ^ i → m' < 256 ^ i → lowTo m i = lowTo m' i → m = m' := by
  induction i with
  | zero => intro m m' h h' _; simp at h h'; omega
  | succ i ih =>
    intro m m' h h' e
    have e0 : byt (m % 256) = byt (m' % 256) := by
      have := congrArg (fun l => l[0]?.getD 0) e
      simpa [lowTo_get _ _ _ (Nat.succ_pos i)] using this
    have e1 : m % 256 = m' % 256 := byt_inj (Nat.mod_lt _ (by omega)) (Nat.mod_lt _ (by omega)) e0
    have e2 : m / 256 = m' / 256 := by
      refine ih _ _ ?_ ?_ ?_
      · rw [Nat.div_lt_iff_lt_mul (by omega)]; rw [Nat.pow_succ] at h; exact h
      · rw [Nat.div_lt_iff_lt_mul (by omega)]; rw [Nat.pow_succ] at h'; exact h'
      · apply List.ext_getElem (by simp [lowTo_length])
        intro r h1 h2
        rw [lowTo_length] at h1 h2
        have := congrArg (fun l => l[r + 1]?.getD 0) e
        simp only [lowTo_get _ _ _ (Nat.succ_lt_succ h1), Nat.pow_succ'] at this
        simp only [lowTo, List.getElem_map, List.getElem_range, Nat.div_div_eq_div_mul]
        exact this
    omega
/-- sealed bytes with one byte replaced by another one are refused -/
theorem open_bent {k : Nat} (hk : k < 18446744073709551616) (l : List UInt8) (j : Nat) (hj : j < l.length + 8) (c : UInt8) (hc : (sealL k l)[j]? ≠ some c) : openL k ((sealL k l).set j c) = .error 9 := by
  unfold openL
  have hlen : ((sealL k l).set j c).length = l.length + 8 := by rw [List.length_set, sealL_length]
  rw [if_neg (by omega), hlen, Nat.add_sub_cancel, if_neg]
  intro h
  unfold sealL at h hc
  by_cases hjl : j < l.length
  · rw [List.set_append_left _ _ hjl, List.take_left' (by rw [List.length_set]), List.drop_left' (by rw [List.length_set])] at h
    rw [List.getElem?_append_left hjl] at hc
    exact sealH_set hk l j hjl c hc (lowTo_inj 8 _ _ (sealH_lt _ hk) (sealH_lt _ hk) h)
  · rw [List.set_append_right _ _ (by omega), List.take_left, List.drop_left] at h
    rw [List.getElem?_append_right (by omega)] at hc
    have : (sealB k l)[j - l.length]? = some c := by
      rw [h, List.getElem?_set_self (by rw [lowTo_length]; omega)]
    exact hc this

/-! ### packets -/
/-- the bytes of a packet -/
def pktB (s a : Int) (b : List UInt8) : List UInt8 := encInts [s, a] ++ encBytes b
/-- can a packet have been sent? -/
def pktOk (s a : Int) (b : List UInt8) : Bool := decide (0 ≤ s) && decide (0 ≤ a) && decide (b.length ≤ 65536) && (decide (0 < s) || decide (b.length = 0))
def readP (l : List UInt8) : Option (Int × Int × List UInt8) :=
  match decL decI l with
  | .error _ => none
  | .ok (xs, n) => match xs with
    | [s, a] => match decB (l.drop n) with
      | .error _ => none
      | .ok (b, m) => if n + m = l.length ∧ pktOk s a b = true then some (s, a, b) else none
    | _ => none
theorem read_pkt (s a : Int) (b : List UInt8) (hs : I64 s) (ha : I64 a) (h : pktOk s a b = true) : readP (pktB s a b) = some (s, a, b) := by
  have hb : b.length ≤ 65536 := by unfold pktOk at h; simp only [Bool.and_eq_true, decide_eq_true_eq] at h; exact h.1.2
  unfold readP pktB
  rw [ints_round [s, a] (encBytes b) (by simp) (by intro x hx; simp at hx; rcases hx with rfl | rfl <;> assumption)]
  dsimp only
  rw [List.drop_left]
  have := decB_round b [] (by omega)
  rw [List.append_nil] at this
  rw [this]
  dsimp only
  rw [if_pos ⟨by rw [List.length_append], h⟩]
theorem encBytes_le' (l : List UInt8) (h : l.length ≤ 1000000000) : (encBytes l).length ≤ 9 + l.length := by
  unfold encBytes
  rw [List.length_append]
  have := encInt_le (l.length : Int) (I64.nat h)
  omega
theorem pktB_le (s a : Int) (b : List UInt8) (hs : I64 s) (ha : I64 a) (hb : b.length ≤ 100000) : (pktB s a b).length ≤ 36 + b.length := by
  have h1 := encBytes_le' b (by omega)
  have h2 := encInt_le (2 : Nat) (I64.nat (by omega))
  have h3 := encInt_le s hs
  have h4 := encInt_le a ha
  have e : encInts [s, a] = encInt ((2 : Nat) : Int) ++ (encInt s ++ (encInt a ++ [])) := rfl
  unfold pktB
  rw [List.length_append, e]
  simp only [List.length_append, List.length_nil]
  omega
end Go.Proofs.Ytbekkndkdfmijaa
