/- Plain laws on decoding an integer: the canonical form, the round trip, the prefixes. Nothing of the program stands here. -/
import Derived.Test.YtbekkndkdfmijaaWc
namespace Go.Proofs.Ytbekkndkdfmijaa
open Go.RowKit

/-- a digit as it is read -/
def fl (neg : Bool) (b : UInt8) : Nat := if neg then 255 - b.toNat else b.toNat
theorem fl_lt (neg : Bool) (b : UInt8) : fl neg b < 256 := by have := b.toNat_lt; unfold fl; split <;> omega
/-- the number with these digits, the greatest first -/
def num (l : List Nat) : Nat := l.foldl (fun m d => m * 256 + d) 0
theorem num_nil : num [] = 0 := rfl
theorem num_snoc (l : List Nat) (d : Nat) : num (l ++ [d]) = num l * 256 + d := by simp [num]
theorem snoc_ind {α : Type} {p : List α → Prop} (l : List α) (h0 : p []) (h1 : ∀ l d, p l → p (l ++ [d])) : p l := by
  have : ∀ r : List α, p r.reverse := by
    intro r
    induction r with
    | nil => simpa using h0
    | cons d r ih => rw [List.reverse_cons]; exact h1 _ _ ih
  simpa using this l.reverse
theorem num_lt (l : List Nat) (h : ∀ d ∈ l, d < 256) : num l < 256 ^ l.length := by
  revert h
  refine snoc_ind (p := fun l => (∀ d ∈ l, d < 256) → num l < 256 ^ l.length) l (fun _ => by simp [num]) fun l d ih h => ?_
  have h1 := ih fun x hx => h x (by simp [hx])
  have h2 := h d (by simp)
  rw [num_snoc, List.length_append, List.length_singleton, Nat.pow_succ]
  omega
theorem num_ge (d : Nat) (l : List Nat) (hd : 0 < d) : 256 ^ l.length ≤ num (d :: l) := by
  refine snoc_ind (p := fun l => 256 ^ l.length ≤ num (d :: l)) l (by simp [num]; omega) fun l e ih => ?_
  rw [← List.cons_append, num_snoc, List.length_append, List.length_singleton, Nat.pow_succ]
  omega
theorem num_dig (l : List Nat) (h : ∀ d ∈ l, d < 256) : ∀ i, i < l.length → dig (num l) l.length i = l[i]?.getD 0 := by
  revert h
  refine snoc_ind (p := fun l => (∀ d ∈ l, d < 256) → ∀ i, i < l.length → dig (num l) l.length i = l[i]?.getD 0) l (fun _ i hi => by simp at hi) fun l d ih h i hi => ?_
  have h2 := h d (by simp)
  rw [List.length_append, List.length_singleton] at hi
  unfold dig
  rw [num_snoc, List.length_append, List.length_singleton]
  by_cases hl : i < l.length
  · rw [List.getElem?_append_left hl, ← ih (fun x hx => h x (by simp [hx])) i hl]
    unfold dig
    rw [show l.length + 1 - 1 - i = (l.length - 1 - i) + 1 by omega, Nat.pow_succ, Nat.mul_comm (256 ^ _) 256, ← Nat.div_div_eq_div_mul, show (num l * 256 + d) / 256 = num l by omega]
  · obtain rfl : i = l.length := by omega
    rw [show l.length + 1 - 1 - l.length = 0 by omega, Nat.pow_zero, Nat.div_one]
    simp; omega
theorem num_digs (m k r : Nat) (hm : m < 256 ^ k) (hr : r ≤ k) : num ((List.range r).map (dig m k)) = m / 256 ^ (k - r) := by
  induction r with
  | zero => rw [Nat.sub_zero, Nat.div_eq_of_lt hm]; rfl
  | succ r ih =>
    rw [List.range_succ, List.map_append, List.map_singleton, num_snoc, ih (by omega)]
    unfold dig
    rw [show k - r = (k - 1 - r) + 1 by omega, show k - (r + 1) = k - 1 - r by omega, Nat.pow_succ, ← Nat.div_div_eq_div_mul]
    omega

/-- DECODING AN INTEGER: the number and the bytes that it took, or the error -/
def decI (b : List UInt8) : Except Nat (Int × Nat) :=
  match b with
  | [] => .error 3
  | h :: t =>
    let neg : Bool := decide (h.toNat < 128)
    let k := fl neg h - 128
    if 8 < k then .error 2
    else if t.length < k then .error 3
    else if 0 < k ∧ fl neg (t[0]?.getD 0) = 0 then .error 2
    else if 9223372036854775808 ≤ num ((t.take k).map (fl neg)) then .error 2
    else .ok (if neg then -1 - (num ((t.take k).map (fl neg)) : Int) else (num ((t.take k).map (fl neg)) : Int), k + 1)

theorem fl_flp (n : Int) (d : Nat) (hd : d < 256) : fl (decide (n < 0)) (byt (flp n d)) = d := by
  have h := byt_toNat (flp_lt n hd)
  unfold fl flp at *
  by_cases hn : n < 0
  · simp [hn] at *; omega
  · simp [hn] at *; omega
theorem flp_fl (n : Int) (b : UInt8) : byt (flp n (fl (decide (n < 0)) b)) = b := by
  have h := b.toNat_lt
  have : flp n (fl (decide (n < 0)) b) = b.toNat := by
    unfold fl flp
    by_cases hn : n < 0
    · simp [hn]; omega
    · simp [hn]
  rw [this, byt_of]

theorem decI_round (n : Int) (hn : I64 n) (t : List UInt8) : decI (encInt n ++ t) = .ok (n, (encInt n).length) := by
  have hm := mag_lt hn.1 hn.2
  obtain ⟨h1, h2, h3⟩ := nd_spec hm
  have hb := byt_toNat (headB_lt n h2)
  have hneg : (decide ((byt (headB n (nd (mag n)))).toNat < 128)) = decide (n < 0) := by
    rw [hb]; unfold headB
    by_cases hn : n < 0
    · simp [hn]; omega
    · simp [hn]
  have hk : fl (decide (n < 0)) (byt (headB n (nd (mag n)))) - 128 = nd (mag n) := by
    unfold fl; rw [hb]; unfold headB
    by_cases hn : n < 0
    · simp [hn]; omega
    · simp [hn]
  have hl := digsTo_length n (nd (mag n)) (nd (mag n))
  have hd : (digsTo n (nd (mag n)) (nd (mag n))).map (fl (decide (n < 0))) = (List.range (nd (mag n))).map (dig (mag n) (nd (mag n))) := by
    unfold digsTo
    rw [List.map_map]
    exact List.map_congr_left fun i _ => fl_flp n _ (dig_lt _ _ _)
  have hnum := num_digs (mag n) (nd (mag n)) (nd (mag n)) h1 (Nat.le_refl _)
  rw [Nat.sub_self, Nat.pow_zero, Nat.div_one] at hnum
  have ht : (digsTo n (nd (mag n)) (nd (mag n)) ++ t).take (nd (mag n)) = digsTo n (nd (mag n)) (nd (mag n)) := by
    rw [List.take_append_of_le_length (by omega), List.take_of_length_le (by omega)]
  unfold encInt
  rw [List.cons_append]
  unfold decI
  dsimp only
  rw [hneg, hk, ht, hd, hnum]
  rw [if_neg (by omega), if_neg (by rw [List.length_append]; omega), if_neg, if_neg (by omega)]
  · rw [List.length_cons, hl]
    have e : (if decide (n < 0) = true then -1 - (mag n : Int) else (mag n : Int)) = n := by
      by_cases hz : n < 0
      · rw [if_pos (by simpa using hz), mag_neg hz]; omega
      · rw [if_neg (by simpa using hz), mag_pos (by omega)]
    rw [e]
  · rintro ⟨h0, hz⟩
    have hz1 : (digsTo n (nd (mag n)) (nd (mag n)) ++ t)[0]? = some (byt (flp n (dig (mag n) (nd (mag n)) 0))) := by
      rw [List.getElem?_append_left (by omega)]
      unfold digsTo
      rw [List.getElem?_map, List.getElem?_range h0]; rfl
    rw [hz1, Option.getD_some, fl_flp n _ (dig_lt _ _ _)] at hz
    unfold dig at hz
    rw [Nat.sub_zero] at hz
    have h4 := h3 h0
    have h5 : 0 < mag n / 256 ^ (nd (mag n) - 1) := Nat.div_pos h4 (Nat.pow_pos (by omega))
    have h6 : mag n / 256 ^ (nd (mag n) - 1) < 256 := by
      rw [Nat.div_lt_iff_lt_mul (Nat.pow_pos (by omega)), ← Nat.pow_succ']
      rwa [show (nd (mag n) - 1).succ = nd (mag n) by omega]
    omega

theorem decI_canon (b : List UInt8) (n : Int) (u : Nat) (h : decI b = .ok (n, u)) : I64 n ∧ 1 ≤ u ∧ u ≤ 9 ∧ u ≤ b.length ∧ encInt n = b.take u := by
  cases b with
  | nil => simp [decI] at h
  | cons c t =>
    unfold decI at h
    dsimp only at h
    obtain ⟨neg, hneg⟩ : ∃ neg : Bool, neg = decide (c.toNat < 128) := ⟨_, rfl⟩
    obtain ⟨k, hk⟩ : ∃ k : Nat, k = fl neg c - 128 := ⟨_, rfl⟩
    rw [← hneg, ← hk] at h
    by_cases g1 : 8 < k
    · rw [if_pos g1] at h; simp at h
    rw [if_neg g1] at h
    by_cases g2 : t.length < k
    · rw [if_pos g2] at h; simp at h
    rw [if_neg g2] at h
    by_cases g3 : 0 < k ∧ fl neg (t[0]?.getD 0) = 0
    · rw [if_pos g3] at h; simp at h
    rw [if_neg g3] at h
    obtain ⟨ds, hds⟩ : ∃ ds, ds = (t.take k).map (fl neg) := ⟨_, rfl⟩
    rw [← hds] at h
    by_cases g4 : 9223372036854775808 ≤ num ds
    · rw [if_pos g4] at h; simp at h
    rw [if_neg g4] at h
    simp only [Except.ok.injEq, Prod.mk.injEq] at h
    obtain ⟨h1, rfl⟩ := h
    have hlen : ds.length = k := by rw [hds]; simp; omega
    have hall : ∀ d ∈ ds, d < 256 := by
      intro d hd
      rw [hds] at hd
      obtain ⟨x, -, rfl⟩ := List.mem_map.1 hd
      exact fl_lt _ _
    have hN : neg = decide (n < 0) := by
      rw [← h1]
      cases neg
      · simp
      · simp; omega
    have hmag : mag n = num ds := by
      cases hq : neg
      · rw [hq] at h1; simp at h1; rw [← h1]; have := mag_pos (n := (num ds : Int)) (by omega); omega
      · rw [hq] at h1; simp at h1; rw [← h1]; have := mag_neg (n := -1 - (num ds : Int)) (by omega); omega
    have hnd : nd (mag n) = k := by
      rw [hmag]
      refine nd_of (by omega) (by rw [← hlen]; exact num_lt ds hall) fun h0 => ?_
      have ht : ∃ x r, t = x :: r := by
        cases t with
        | nil => simp at g2; omega
        | cons x r => exact ⟨x, r, rfl⟩
      obtain ⟨x, r, rfl⟩ := ht
      obtain ⟨q, rfl⟩ : ∃ q, k = q + 1 := ⟨k - 1, by omega⟩
      rw [List.take_succ_cons, List.map_cons] at hds
      have hx : 0 < fl neg x := by
        rcases Nat.eq_zero_or_pos (fl neg x) with hz | hz
        · exact absurd ⟨h0, by simpa using hz⟩ g3
        · exact hz
      have := num_ge (fl neg x) ((r.take q).map (fl neg)) hx
      rw [← hds] at this
      rw [hds, List.length_cons] at hlen
      have e : ((r.take q).map (fl neg)).length = q := by omega
      rw [e] at this
      simpa using this
    have hc := c.toNat_lt
    refine ⟨?_, by omega, by omega, by simp; omega, ?_⟩
    · unfold I64
      cases hq : neg
      · rw [hq] at h1; simp at h1; omega
      · rw [hq] at h1; simp at h1; omega
    · unfold encInt
      rw [hnd, List.take_succ_cons]
      congr 1
      · have : headB n k = c.toNat := by
          unfold headB
          by_cases hz : n < 0
          · rw [if_pos hz]
            simp [hz] at hN
            subst hN
            have : c.toNat < 128 := by simpa using hneg.symm
            unfold fl at hk; simp at hk; omega
          · rw [if_neg hz]
            simp [hz] at hN
            subst hN
            have : 128 ≤ c.toNat := by simpa using hneg.symm
            unfold fl at hk; simp at hk; omega
        rw [this, byt_of]
      · apply List.ext_getElem?
        intro i
        by_cases hi : i < k
        · unfold digsTo
          rw [List.getElem?_map, List.getElem?_range hi, hmag, ← hlen, Option.map_some, num_dig ds hall i (by omega), hlen, List.getElem?_take_of_lt hi]
          have hit : i < t.length := by omega
          rw [List.getElem?_eq_getElem hit, hds, List.getElem?_map, List.getElem?_take_of_lt hi, List.getElem?_eq_getElem hit, Option.map_some, Option.getD_some, hN, flp_fl]
        · rw [List.getElem?_eq_none (by rw [digsTo_length]; omega), List.getElem?_eq_none (by rw [List.length_take]; omega)]

/-- every proper prefix of an encoding is too short -/
theorem decI_short (n : Int) (hn : I64 n) (i : Nat) (hi : i < (encInt n).length) : decI ((encInt n).take i) = .error 3 := by
  cases i with
  | zero => rfl
  | succ i =>
    have hm := mag_lt hn.1 hn.2
    obtain ⟨h1, h2, h3⟩ := nd_spec hm
    have hb := byt_toNat (headB_lt n h2)
    rw [encInt_length] at hi
    unfold encInt
    rw [List.take_succ_cons]
    have hneg : (decide ((byt (headB n (nd (mag n)))).toNat < 128)) = decide (n < 0) := by
      rw [hb]; unfold headB
      by_cases hn : n < 0
      · simp [hn]; omega
      · simp [hn]
    have hk : fl (decide (n < 0)) (byt (headB n (nd (mag n)))) - 128 = nd (mag n) := by
      unfold fl; rw [hb]; unfold headB
      by_cases hn : n < 0
      · simp [hn]; omega
      · simp [hn]
    unfold decI
    dsimp only
    rw [hneg, hk, if_neg (by omega), if_pos (by rw [List.length_take, digsTo_length]; omega)]
/-- a candidate is the number that is read, if and only if its encoding stands there -/
theorem decI_iff (b : List UInt8) (n : Int) (u : Nat) (hn : I64 n) (hu : u ≤ b.length) : decI b = .ok (n, u) ↔ encInt n = b.take u := by
  constructor
  · intro h; exact (decI_canon b n u h).2.2.2.2
  · intro h
    have e : b = encInt n ++ b.drop u := by rw [h, List.take_append_drop]
    have hl : (encInt n).length = u := by rw [h, List.length_take]; omega
    rw [e, decI_round n hn, hl]
end Go.Proofs.Ytbekkndkdfmijaa
