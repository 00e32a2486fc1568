/- What the lanes' check says of the words of package draw: a message of one block, its bytes as constants and lanes. Plain; nothing of the program stands here but the specification of its words. -/
import Derived.Test.YtkchalnohkfhbaaDoorZb
import Derived.Test.YtkchalnohkfhbaaDoorHj
set_option linter.unusedSimpArgs false
set_option linter.unusedVariables false
namespace Go.Proofs.YtkchalnohkfhbaaDoor

/-! the rounds of a lane are those of the compression -/
/-- the words of the schedule, without end -/
def wF (b : List UInt8) (t : Nat) : UInt32 := nextW b (schedN b t)
theorem nth_sched (b : List UInt8) : ∀ m t, t < m → nth (schedN b m) t = wF b t := by
  intro m
  induction m with
  | zero => intro t h; omega
  | succ m ih =>
    intro t h
    unfold nth schedN
    by_cases e : t < m
    · rw [List.getElem?_append_left (by rw [schedN_length]; exact e)]
      exact ih t e
    · have : t = m := by omega
      subst this
      rw [List.getElem?_append_right (by rw [schedN_length]; exact Nat.le_refl _), schedN_length, Nat.sub_self]
      rfl
theorem wF_rec (b : List UInt8) (t : Nat) : wF b (t + 16) = aw (aw (aw (wF b t) (sig0 (wF b (t + 1)))) (wF b (t + 9))) (sig1 (wF b (t + 14))) := by
  unfold wF nextW
  rw [schedN_length, if_neg (by omega), show t + 16 - 16 = t by omega, show t + 16 - 15 = t + 1 by omega, show t + 16 - 7 = t + 9 by omega, show t + 16 - 2 = t + 14 by omega]
  rw [nth_sched b _ t (by omega), nth_sched b _ (t + 1) (by omega), nth_sched b _ (t + 9) (by omega), nth_sched b _ (t + 14) (by omega)]
  rfl
theorem runL_rnds (s : St) (W : List UInt32) (F : Nat → UInt32) : ∀ (ks : List UInt32) (t : Nat), (∀ j, j < ks.length → nth KS (t + j) = nth ks j ∧ nth W (t + j) = F (t + j)) → runL (s.rnds W t) F ks t = s.rnds W (t + ks.length) := by
  intro ks
  induction ks with
  | nil => intro t _; rfl
  | cons k ks ih =>
    intro t h
    have h0 := h 0 (by simp)
    have e1 : nth (k :: ks) 0 = k := rfl
    rw [Nat.add_zero, e1] at h0
    unfold runL
    have e2 : (s.rnds W t).rnd k (F t) = s.rnds W (t + 1) := by
      show _ = (s.rnds W t).rnd (nth KS t) (nth W t)
      rw [h0.1, h0.2]
    rw [e2, ih (t + 1) (fun j hj => by
      have := h (j + 1) (by simpa using hj)
      rw [show t + 1 + j = t + (j + 1) by omega]
      exact this), List.length_cons, show t + 1 + ks.length = t + (ks.length + 1) by omega]
theorem comp_a (s : St) (b : List UInt8) : (comp s b).a = aw s.a (runL s (wF b) KS 0).a := by
  have := runL_rnds s (schedN b 64) (wF b) KS 0 (fun j hj => ⟨by rw [Nat.zero_add], nth_sched b 64 _ (by have e : KS.length = 64 := rfl; omega)⟩)
  unfold comp St.plus
  rw [show s.rnds (schedN b 64) 0 = s from rfl, show 0 + KS.length = 64 from rfl] at this
  rw [this]
/-! the word out of the first word of the hash -/
theorem word_lt_of (s : ByteArray) (l : List Int) (t : Int) (h : (shaS (ofM 8 [s, txt (encInts (l ++ [t]))])).a ≠ 4294967295) : wordN s l t < 281474976645120 := by
  unfold wordN ofH sha
  generalize shaS (ofM 8 [s, txt (encInts (l ++ [t]))]) = q at *
  rw [List.take_take, show min 6 16 = 6 from rfl]
  have e : (outTo q 32).take 6 = [byt (q.a.toNat / 256 ^ 3 % 256), byt (q.a.toNat / 256 ^ 2 % 256), byt (q.a.toNat / 256 ^ 1 % 256), byt (q.a.toNat / 256 ^ 0 % 256), byt (q.b.toNat / 256 ^ 3 % 256), byt (q.b.toNat / 256 ^ 2 % 256)] := rfl
  rw [e]
  unfold num
  simp only [List.foldl_cons, List.foldl_nil, byt_toNat (Nat.mod_lt _ (by decide : 256 > 0))]
  have ha := q.a.toNat_lt
  have hne : q.a.toNat ≠ 4294967295 := fun e => h (UInt32.toNat_inj.1 e)
  have hb := q.b.toNat_lt
  omega
/-! a message of one block -/
theorem shaS_one (m : List UInt8) (h : m.length ≤ 55) : shaS m = comp S0 (m ++ padB m.length) := by
  have hl : (m ++ padB m.length).length = 64 := by
    rw [List.length_append, padB_length]
    unfold zeros
    omega
  unfold shaS
  rw [hl, show 64 / 64 = 1 from rfl]
  unfold stN blk
  rw [Nat.mul_zero, List.drop_zero, List.take_of_length_le (by rw [hl]; exact Nat.le_refl _)]
  rfl
/-- the first words of the schedule are those of the block -/
theorem part_nat (b : List UInt8) (t : Nat) : (wF b t).toNat = ((((b[4 * t]?.getD 0).toNat * 256 + (b[4 * t + 1]?.getD 0).toNat) * 256 + (b[4 * t + 2]?.getD 0).toNat) * 256 + (b[4 * t + 3]?.getD 0).toNat) ∨ 16 ≤ t := by
  by_cases ht : t < 16
  · left
    unfold wF nextW
    rw [schedN_length, if_pos ht]
    have step : ∀ (i x : Nat), i ≤ 3 → (part b t i).toNat = x → x < 16777216 → (part b t (i + 1)).toNat = x * 256 + (b[4 * t + i]?.getD 0).toNat := by
      intro i x hi hx hlt
      have hb := (b[4 * t + i]?.getD 0).toNat_lt
      have h1 := w_shl (part b t i) 8 (by omega)
      rw [hx] at h1
      have h2 : (lw (part b t i) 8).toNat = 2 ^ 8 * x := by omega
      show (ow (lw (part b t i) 8) (UInt32.ofNat _)).toNat = _
      unfold ow
      rw [UInt32.toNat_or, h2, UInt32.toNat_ofNat', Nat.mod_eq_of_lt (by omega), ← Nat.two_pow_add_eq_or_of_lt (by omega)]
      omega
    have b0 := (b[4 * t + 0]?.getD 0).toNat_lt
    have b1 := (b[4 * t + 1]?.getD 0).toNat_lt
    have b2 := (b[4 * t + 2]?.getD 0).toNat_lt
    have s1 := step 0 0 (by omega) rfl (by omega)
    have s2 := step 1 _ (by omega) s1 (by omega)
    have s3 := step 2 _ (by omega) s2 (by omega)
    have s4 := step 3 _ (by omega) s3 (by omega)
    rw [s4]
    simp only [Nat.add_zero]
    omega
  · right; omega
end Go.Proofs.YtkchalnohkfhbaaDoor
