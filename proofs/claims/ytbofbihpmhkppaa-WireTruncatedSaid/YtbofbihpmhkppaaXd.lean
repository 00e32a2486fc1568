/- Plain law: the order of the encodings of integers, compared byte by byte, is that of the integers; none is a proper prefix of another. -/
import Derived.Test.YtbofbihpmhkppaaXb
namespace Go.Proofs.Ytbofbihpmhkppaa
open Go.RowKit

theorem bl_lt {a b : UInt8} {x y : List UInt8} (h : a.toNat < b.toNat) : Op.bytesLess (a :: x) (b :: y) = true := by
  unfold Op.bytesLess
  have : a < b := UInt8.lt_iff_toNat_lt.2 h
  simp [this]
theorem bl_gt {a b : UInt8} {x y : List UInt8} (h : b.toNat < a.toNat) : Op.bytesLess (a :: x) (b :: y) = false := by
  unfold Op.bytesLess
  have h1 : ¬ a < b := fun h2 => by have := UInt8.lt_iff_toNat_lt.1 h2; omega
  have h2 : ¬ a = b := fun e => by subst e; omega
  simp [h1, h2]
theorem bl_eq {a : UInt8} {x y : List UInt8} : Op.bytesLess (a :: x) (a :: y) = Op.bytesLess x y := by
  conv => lhs; unfold Op.bytesLess
  have h1 : ¬ a < a := fun h2 => by have := UInt8.lt_iff_toNat_lt.1 h2; omega
  simp [h1]
theorem num_cons (d : Nat) (l : List Nat) : num (d :: l) = d * 256 ^ l.length + num l := by
  refine snoc_ind (p := fun l => num (d :: l) = d * 256 ^ l.length + num l) l (by simp [num]) fun l e ih => ?_
  rw [← List.cons_append, num_snoc, num_snoc, ih, List.length_append, List.length_singleton, Nat.pow_succ, Nat.add_mul, Nat.mul_assoc]
  omega
def numB (l : List UInt8) : Nat := num (l.map UInt8.toNat)
theorem numB_lt (l : List UInt8) : numB l < 256 ^ l.length := by
  have := num_lt (l.map UInt8.toNat) (by intro d hd; obtain ⟨b, -, rfl⟩ := List.mem_map.1 hd; exact b.toNat_lt)
  rwa [List.length_map] at this
theorem numB_cons (a : UInt8) (l : List UInt8) : numB (a :: l) = a.toNat * 256 ^ l.length + numB l := by
  unfold numB; rw [List.map_cons, num_cons, List.length_map]
theorem bl_num : ∀ {x y : List UInt8}, x.length = y.length → Op.bytesLess x y = decide (numB x < numB y)
  | [], [], _ => by simp [Op.bytesLess]
  | [], b :: y, h => by simp at h
  | a :: x, [], h => by simp at h
  | a :: x, b :: y, h => by
    have hl : x.length = y.length := by simpa using h
    have h1 := numB_lt x
    have h2 := numB_lt y
    rw [hl] at h1
    rw [numB_cons, numB_cons, hl]
    rcases Nat.lt_trichotomy a.toNat b.toNat with g | g | g
    · rw [bl_lt g]; symm; rw [decide_eq_true_iff]
      have := Nat.mul_le_mul_right (256 ^ y.length) (show a.toNat + 1 ≤ b.toNat by omega)
      rw [Nat.add_mul] at this; omega
    · obtain rfl := UInt8.toNat_inj.1 g
      rw [bl_eq, bl_num hl]
      rw [decide_eq_decide]; omega
    · rw [bl_gt g]; symm; rw [decide_eq_false_iff_not]
      have := Nat.mul_le_mul_right (256 ^ y.length) (show b.toNat + 1 ≤ a.toNat by omega)
      rw [Nat.add_mul] at this; omega
theorem num_flip (l : List Nat) (h : ∀ d ∈ l, d < 256) : num (l.map fun d => 255 - d) + num l + 1 = 256 ^ l.length := by
  revert h
  refine snoc_ind (p := fun l => (∀ d ∈ l, d < 256) → num (l.map fun d => 255 - d) + num l + 1 = 256 ^ l.length) l (fun _ => by simp [num]) fun l d ih h => ?_
  have h1 := ih fun x hx => h x (by simp [hx])
  have h2 := h d (by simp)
  rw [List.map_append, List.map_singleton, num_snoc, num_snoc, List.length_append, List.length_singleton, Nat.pow_succ]
  omega
theorem numB_pos {n : Int} (hn : I64 n) (h : ¬ n < 0) : numB (digsTo n (nd (mag n)) (nd (mag n))) = mag n := by
  have hs := (nd_spec (mag_lt hn.1 hn.2)).1
  have e := num_digs (mag n) (nd (mag n)) (nd (mag n)) hs (Nat.le_refl _)
  rw [Nat.sub_self, Nat.pow_zero, Nat.div_one] at e
  unfold numB digsTo
  rw [List.map_map]
  conv => rhs; rw [← e]
  congr 1
  refine List.map_congr_left fun i _ => ?_
  show (byt (flp n (dig (mag n) (nd (mag n)) i))).toNat = _
  rw [byt_toNat (flp_lt n (dig_lt _ _ _))]
  unfold flp; rw [if_neg h]
theorem numB_neg {n : Int} (hn : I64 n) (h : n < 0) : numB (digsTo n (nd (mag n)) (nd (mag n))) + mag n + 1 = 256 ^ nd (mag n) := by
  have hs := (nd_spec (mag_lt hn.1 hn.2)).1
  have e := num_digs (mag n) (nd (mag n)) (nd (mag n)) hs (Nat.le_refl _)
  rw [Nat.sub_self, Nat.pow_zero, Nat.div_one] at e
  have k := num_flip ((List.range (nd (mag n))).map (dig (mag n) (nd (mag n)))) (by intro d hd; obtain ⟨i, -, rfl⟩ := List.mem_map.1 hd; exact dig_lt _ _ _)
  rw [e, List.length_map, List.length_range] at k
  rw [← k]
  congr 2
  unfold numB digsTo
  rw [List.map_map, List.map_map]
  congr 1
  refine List.map_congr_left fun i _ => ?_
  show (byt (flp n (dig (mag n) (nd (mag n)) i))).toNat = 255 - _
  rw [byt_toNat (flp_lt n (dig_lt _ _ _))]
  unfold flp; rw [if_pos h]
theorem nd_mono {a b : Nat} (ha : a < 9223372036854775808) (hb : b < 9223372036854775808) (h : nd a < nd b) : a < b := by
  obtain ⟨h1, -, -⟩ := nd_spec ha
  obtain ⟨-, -, h3⟩ := nd_spec hb
  have := h3 (by omega)
  have : 256 ^ nd a ≤ 256 ^ (nd b - 1) := Nat.pow_le_pow_right (by omega) (by omega)
  omega
theorem enc_order {m n : Int} (hm : I64 m) (hn : I64 n) : Op.bytesLess (encInt m) (encInt n) = decide (m < n) := by
  have am := mag_lt hm.1 hm.2
  have an := mag_lt hn.1 hn.2
  have bm := (nd_spec am).2.1
  have bn := (nd_spec an).2.1
  have cm := byt_toNat (headB_lt m bm)
  have cn := byt_toNat (headB_lt n bn)
  have lm := digsTo_length m (nd (mag m)) (nd (mag m))
  have ln := digsTo_length n (nd (mag n)) (nd (mag n))
  unfold encInt
  by_cases gm : m < 0 <;> by_cases gn : n < 0
  · have em := mag_neg gm
    have en := mag_neg gn
    have km := numB_neg hm gm
    have kn := numB_neg hn gn
    unfold headB at cm cn ⊢
    rw [if_pos gm] at cm; rw [if_pos gn] at cn; rw [if_pos gm, if_pos gn]
    rcases Nat.lt_trichotomy (nd (mag m)) (nd (mag n)) with g | g | g
    · have := nd_mono am an g
      rw [bl_gt (by omega)]; symm; rw [decide_eq_false_iff_not]; omega
    · have hb : byt (127 - nd (mag m)) = byt (127 - nd (mag n)) := by rw [g]
      have hp : 256 ^ nd (mag m) = 256 ^ nd (mag n) := by rw [g]
      rw [hb, bl_eq, bl_num (by omega), decide_eq_decide]
      omega
    · have := nd_mono an am g
      rw [bl_lt (by omega)]; symm; rw [decide_eq_true_iff]; omega
  · unfold headB at cm cn ⊢
    rw [if_pos gm] at cm; rw [if_neg gn] at cn; rw [if_pos gm, if_neg gn]
    rw [bl_lt (by omega)]; symm; rw [decide_eq_true_iff]; omega
  · unfold headB at cm cn ⊢
    rw [if_neg gm] at cm; rw [if_pos gn] at cn; rw [if_neg gm, if_pos gn]
    rw [bl_gt (by omega)]; symm; rw [decide_eq_false_iff_not]; omega
  · have em := mag_pos (n := m) (by omega)
    have en := mag_pos (n := n) (by omega)
    have km := numB_pos hm gm
    have kn := numB_pos hn gn
    unfold headB at cm cn ⊢
    rw [if_neg gm] at cm; rw [if_neg gn] at cn; rw [if_neg gm, if_neg gn]
    rcases Nat.lt_trichotomy (nd (mag m)) (nd (mag n)) with g | g | g
    · have := nd_mono am an g
      rw [bl_lt (by omega)]; symm; rw [decide_eq_true_iff]; omega
    · have hb : byt (128 + nd (mag m)) = byt (128 + nd (mag n)) := by rw [g]
      rw [hb, bl_eq, bl_num (by omega), decide_eq_decide]
      omega
    · have := nd_mono an am g
      rw [bl_gt (by omega)]; symm; rw [decide_eq_false_iff_not]; omega
theorem enc_prefix {m n : Int} (hm : I64 m) (hn : I64 n) (h : encInt m = (encInt n).take (encInt m).length) : m = n := by
  have h1 := decI_round m hm []
  rw [List.append_nil] at h1
  by_cases hl : (encInt m).length < (encInt n).length
  · have h2 := decI_short n hn _ hl
    rw [← h, h1] at h2; simp at h2
  · rw [List.take_of_length_le (by omega)] at h
    have h2 := decI_round n hn []
    rw [List.append_nil, ← h, h1] at h2
    simp only [Except.ok.injEq, Prod.mk.injEq] at h2
    exact h2.1
end Go.Proofs.Ytbofbihpmhkppaa
