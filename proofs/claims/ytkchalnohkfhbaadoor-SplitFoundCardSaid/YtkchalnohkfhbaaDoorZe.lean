/- The batches of the draws of great splits, and what they say of the words. In one text: Za, Zb, Zc, Zd, Ze, Zf, Zg, Zh, Zi -/
import Derived.KernelRfl
import Derived.Test.YtkchalnohkfhbaaDoorHc
import Derived.Test.YtkchalnohkfhbaaDoorHj
set_option linter.unusedSimpArgs false
set_option linter.unusedVariables false
/- Lanes: many numbers of 64 bits in one natural number, and what the operations on naturals do to each. Plain; nothing of the program stands here. -/
namespace Go.Proofs.YtkchalnohkfhbaaDoor

/-- the numbers g 0 .. g (n - 1), 64 bits each -/
def pkN : Nat → (Nat → Nat) → Nat
  | 0, _ => 0
  | n + 1, g => 2 ^ 64 * pkN n (fun i => g (i + 1)) + g 0
theorem pkN_congr {n : Nat} : ∀ {g h : Nat → Nat}, (∀ i, i < n → g i = h i) → pkN n g = pkN n h := by
  induction n with
  | zero => intro g h _; rfl
  | succ n ih =>
    intro g h e
    unfold pkN
    rw [ih (fun i hi => e (i + 1) (by omega)), e 0 (by omega)]
theorem pkN_add (n : Nat) : ∀ (g h : Nat → Nat), pkN n g + pkN n h = pkN n (fun i => g i + h i) := by
  induction n with
  | zero => intro g h; rfl
  | succ n ih =>
    intro g h
    have := ih (fun i => g (i + 1)) (fun i => h (i + 1))
    unfold pkN
    dsimp only at this ⊢
    rw [← this]
    omega
theorem pkN_mul (n : Nat) (c : Nat) : ∀ (g : Nat → Nat), pkN n g * c = pkN n (fun i => g i * c) := by
  induction n with
  | zero => intro g; simp [pkN]
  | succ n ih =>
    intro g
    have := ih (fun i => g (i + 1))
    unfold pkN
    dsimp only at this ⊢
    rw [← this, Nat.add_mul, Nat.mul_assoc]
theorem pkN_bit (n : Nat) : ∀ (g : Nat → Nat), (∀ i, i < n → g i < 2 ^ 64) → ∀ j, (pkN n g).testBit j = (decide (j / 64 < n) && (g (j / 64)).testBit (j % 64)) := by
  induction n with
  | zero => intro g _ j; simp [pkN]
  | succ n ih =>
    intro g hg j
    unfold pkN
    rw [Nat.testBit_two_pow_mul_add _ (hg 0 (by omega))]
    by_cases hj : j < 64
    · rw [if_pos hj, Nat.div_eq_of_lt hj, Nat.mod_eq_of_lt hj]
      simp
    · rw [if_neg hj, ih _ (fun i hi => hg (i + 1) (by omega))]
      have e1 : (j - 64) / 64 + 1 = j / 64 := by omega
      have e2 : (j - 64) % 64 = j % 64 := by omega
      rw [e2]
      congr 1
      · rw [decide_eq_decide]; omega
      · rw [e1]
theorem pkN_and {n : Nat} {g h : Nat → Nat} (hg : ∀ i, i < n → g i < 2 ^ 64) (hh : ∀ i, i < n → h i < 2 ^ 64) : pkN n g &&& pkN n h = pkN n (fun i => g i &&& h i) := by
  apply Nat.eq_of_testBit_eq
  intro j
  rw [Nat.testBit_and, pkN_bit n g hg, pkN_bit n h hh, pkN_bit n _ (fun i hi => Nat.and_lt_two_pow _ (hh i hi)), Nat.testBit_and]
  cases decide (j / 64 < n) <;> simp
theorem pkN_xor {n : Nat} {g h : Nat → Nat} (hg : ∀ i, i < n → g i < 2 ^ 64) (hh : ∀ i, i < n → h i < 2 ^ 64) : pkN n g ^^^ pkN n h = pkN n (fun i => g i ^^^ h i) := by
  apply Nat.eq_of_testBit_eq
  intro j
  rw [Nat.testBit_xor, pkN_bit n g hg, pkN_bit n h hh, pkN_bit n _ (fun i hi => Nat.xor_lt_two_pow (hg i hi) (hh i hi)), Nat.testBit_xor]
  cases decide (j / 64 < n) <;> simp
/-- a shift to the right, and the low 32 bits -/
theorem pkN_shr {n : Nat} {g : Nat → Nat} (hg : ∀ i, i < n → g i < 2 ^ 64) (k : Nat) (hk : k ≤ 32) : (pkN n g >>> k) &&& pkN n (fun _ => 4294967295) = pkN n (fun i => (g i >>> k) &&& 4294967295) := by
  have hm : ∀ x : Nat, x &&& 4294967295 < 2 ^ 64 := fun x => Nat.and_lt_two_pow x (by decide)
  apply Nat.eq_of_testBit_eq
  intro j
  rw [Nat.testBit_and, Nat.testBit_shiftRight, pkN_bit n g hg, pkN_bit n (fun _ => 4294967295) (fun _ _ => by decide), pkN_bit n _ (fun i hi => hm _), Nat.testBit_and, Nat.testBit_shiftRight]
  have e32 : (4294967295 : Nat) = 2 ^ 32 - 1 := rfl
  rw [e32, Nat.testBit_two_pow_sub_one]
  by_cases hj : j % 64 < 32
  · have e1 : (k + j) / 64 = j / 64 := by omega
    have e2 : (k + j) % 64 = k + j % 64 := by omega
    rw [e1, e2]
    cases decide (j / 64 < n) <;> simp
  · simp [hj]
end Go.Proofs.YtkchalnohkfhbaaDoor
/- The rounds of SHA-256 on lanes: many hashes at once, as naturals; what they say of each lane. Plain; nothing of the program stands here. -/
namespace Go.Proofs.YtkchalnohkfhbaaDoor

/-- the rounds on lanes: k for each round, the eight words, b xor c, sixteen words of the schedule; at the end: no lane's a is the number that makes the first word of the hash all ones -/
noncomputable abbrev vRounds (one M : Nat) (K : List Nat) : Nat → Nat → Nat → Nat → Nat → Nat → Nat → Nat → Nat → Nat → Nat → Nat → Nat → Nat → Nat → Nat → Nat → Nat → Nat → Nat → Nat → Nat → Nat → Nat → Nat → Bool :=
  List.rec (motive := fun _ => Nat → Nat → Nat → Nat → Nat → Nat → Nat → Nat → Nat → Nat → Nat → Nat → Nat → Nat → Nat → Nat → Nat → Nat → Nat → Nat → Nat → Nat → Nat → Nat → Nat → Bool)
    (fun a b c d e f g h x w0 w1 w2 w3 w4 w5 w6 w7 w8 w9 w10 w11 w12 w13 w14 w15 => Nat.beq (Nat.land (Nat.add (Nat.xor a (Nat.mul one 2515933592)) M) (Nat.mul one 4294967296)) (Nat.mul one 4294967296))
    (fun k ks ih a b c d e f g h x w0 w1 w2 w3 w4 w5 w6 w7 w8 w9 w10 w11 w12 w13 w14 w15 => (fun t1 => ih (Nat.land (Nat.add t1 (Nat.add (Nat.land (Nat.xor (Nat.xor (Nat.shiftRight (Nat.mul a 4294967297) 2) (Nat.shiftRight (Nat.mul a 4294967297) 13)) (Nat.shiftRight (Nat.mul a 4294967297) 22)) M) (Nat.xor b (Nat.land x (Nat.xor a b))))) M) a b c (Nat.land (Nat.add d t1) M) e f g (Nat.xor a b) w1 w2 w3 w4 w5 w6 w7 w8 w9 w10 w11 w12 w13 w14 w15 (Nat.land (Nat.add (Nat.add w0 (Nat.land (Nat.xor (Nat.xor (Nat.shiftRight (Nat.mul w1 4294967297) 7) (Nat.shiftRight (Nat.mul w1 4294967297) 18)) (Nat.shiftRight w1 3)) M)) (Nat.add w9 (Nat.land (Nat.xor (Nat.xor (Nat.shiftRight (Nat.mul w14 4294967297) 17) (Nat.shiftRight (Nat.mul w14 4294967297) 19)) (Nat.shiftRight w14 10)) M))) M)) (Nat.add (Nat.add (Nat.add h (Nat.land (Nat.xor (Nat.xor (Nat.shiftRight (Nat.mul e 4294967297) 6) (Nat.shiftRight (Nat.mul e 4294967297) 11)) (Nat.shiftRight (Nat.mul e 4294967297) 25)) M)) (Nat.xor g (Nat.land e (Nat.xor f g)))) (Nat.add w0 (Nat.mul one k)))) K
theorem vRounds_nil (one M a b c d e f g h x w0 w1 w2 w3 w4 w5 w6 w7 w8 w9 w10 w11 w12 w13 w14 w15 : Nat) : vRounds one M [] a b c d e f g h x w0 w1 w2 w3 w4 w5 w6 w7 w8 w9 w10 w11 w12 w13 w14 w15 = Nat.beq (((a ^^^ (one * 2515933592)) + M) &&& (one * 4294967296)) (one * 4294967296) := rfl
/-- three shifts, their exclusive or, the low 32 bits -/
def x3 (M y s1 s2 z s3 : Nat) : Nat := (((y >>> s1) ^^^ (y >>> s2)) ^^^ (z >>> s3)) &&& M
theorem vRounds_cons (one M k : Nat) (ks : List Nat) (a b c d e f g h x w0 w1 w2 w3 w4 w5 w6 w7 w8 w9 w10 w11 w12 w13 w14 w15 : Nat) : vRounds one M (k :: ks) a b c d e f g h x w0 w1 w2 w3 w4 w5 w6 w7 w8 w9 w10 w11 w12 w13 w14 w15 =
    vRounds one M ks ((((((h + x3 M (e * 4294967297) 6 11 (e * 4294967297) 25) + (g ^^^ (e &&& (f ^^^ g)))) + (w0 + one * k)) + (x3 M (a * 4294967297) 2 13 (a * 4294967297) 22 + (b ^^^ (x &&& (a ^^^ b))))) &&& M)) a b c
      ((d + (((h + x3 M (e * 4294967297) 6 11 (e * 4294967297) 25) + (g ^^^ (e &&& (f ^^^ g)))) + (w0 + one * k))) &&& M) e f g (a ^^^ b) w1 w2 w3 w4 w5 w6 w7 w8 w9 w10 w11 w12 w13 w14 w15
      (((w0 + x3 M (w1 * 4294967297) 7 18 w1 3) + (w9 + x3 M (w14 * 4294967297) 17 19 w14 10)) &&& M) := rfl

/-- words in lanes -/
def pk (n : Nat) (f : Nat → UInt32) : Nat := pkN n (fun i => (f i).toNat)
theorem u64 (x : UInt32) : x.toNat < 2 ^ 64 := Nat.lt_trans x.toNat_lt (by decide)
theorem mask_mod (x : Nat) : x &&& 4294967295 = x % 4294967296 := Nat.and_two_pow_sub_one_eq_mod x 32
theorem pkN_mask {n : Nat} {g : Nat → Nat} (hg : ∀ i, i < n → g i < 2 ^ 64) : pkN n g &&& pkN n (fun _ => 4294967295) = pkN n (fun i => g i % 4294967296) := by
  rw [pkN_and hg (fun _ _ => by decide)]
  exact pkN_congr fun i _ => mask_mod _
theorem rot_lane (x : UInt32) (s : Nat) (h0 : 0 < s) (h1 : s < 32) : ((x.toNat * 4294967297) >>> s) &&& 4294967295 = (rotr x s).toNat := by
  have hx := x.toNat_lt
  have e1 : (lw x (32 - s)).toNat = x.toNat * 2 ^ (32 - s) % 4294967296 := by
    have := w_shl x (32 - s) (by omega)
    have h2 : ((x.toNat * 2 ^ (32 - s) % 4294967296 : Nat) : Int) = ((lw x (32 - s)).toNat : Int) := by rw [← this]; simp
    omega
  have e2 : (sw x s).toNat = x.toNat / 2 ^ s := by
    have := w_shr x s h1
    have h2 : ((x.toNat / 2 ^ s : Nat) : Int) = ((sw x s).toNat : Int) := by rw [← this]; simp
    omega
  unfold rotr ow
  rw [UInt32.toNat_or, e1, e2]
  apply Nat.eq_of_testBit_eq
  intro j
  rw [Nat.testBit_and, Nat.testBit_shiftRight, show (4294967295 : Nat) = 2 ^ 32 - 1 from rfl, Nat.testBit_two_pow_sub_one, Nat.testBit_or, show (4294967296 : Nat) = 2 ^ 32 from rfl, Nat.testBit_mod_two_pow, ← Nat.shiftLeft_eq, Nat.testBit_shiftLeft, ← Nat.shiftRight_eq_div_pow, Nat.testBit_shiftRight,
    show x.toNat * 4294967297 = 2 ^ 32 * x.toNat + x.toNat by omega, Nat.testBit_two_pow_mul_add _ hx]
  by_cases hj : j < 32
  · by_cases hs : s + j < 32
    · have e3 : ¬ (32 - s ≤ j) := by omega
      simp [hj, hs, e3]
    · have e3 : 32 - s ≤ j := by omega
      have e4 : x.toNat.testBit (s + j) = false := Nat.testBit_lt_two_pow (Nat.lt_of_lt_of_le hx (Nat.pow_le_pow_right (by decide) (by omega)))
      rw [e4]
      simp [hj, hs, e3, show s + j - 32 = j - (32 - s) by omega]
  · have e4 : x.toNat.testBit (s + j) = false := Nat.testBit_lt_two_pow (Nat.lt_of_lt_of_le hx (Nat.pow_le_pow_right (by decide) (by omega)))
    simp [hj, e4]
theorem shr_lane (x : UInt32) (s : Nat) (h1 : s < 32) : (x.toNat >>> s) &&& 4294967295 = (sw x s).toNat := by
  have hx := x.toNat_lt
  have := w_shr x s h1
  have h2 : ((x.toNat / 2 ^ s : Nat) : Int) = ((sw x s).toNat : Int) := by rw [← this]; simp
  rw [mask_mod, Nat.shiftRight_eq_div_pow, Nat.mod_eq_of_lt (Nat.lt_of_le_of_lt (Nat.div_le_self _ _) hx)]
  omega
theorem x3_rot {n : Nat} (f : Nat → UInt32) (s1 s2 s3 : Nat) (h1 : 0 < s1 ∧ s1 < 32) (h2 : 0 < s2 ∧ s2 < 32) (h3 : 0 < s3 ∧ s3 < 32) :
    x3 (pkN n fun _ => 4294967295) (pk n f * 4294967297) s1 s2 (pk n f * 4294967297) s3 = pk n (fun i => mixU (f i) s1 s2 s3) := by
  have hb : ∀ i, i < n → (f i).toNat * 4294967297 < 2 ^ 64 := fun i _ => by have := (f i).toNat_lt; omega
  have hm : ∀ x : Nat, x &&& 4294967295 < 2 ^ 64 := fun x => Nat.and_lt_two_pow x (by decide)
  unfold x3 pk
  rw [pkN_mul, Nat.and_xor_distrib_right, Nat.and_xor_distrib_right, pkN_shr hb s1 (by omega), pkN_shr hb s2 (by omega), pkN_shr hb s3 (by omega), pkN_xor (fun _ _ => hm _) (fun _ _ => hm _), pkN_xor (fun _ _ => Nat.xor_lt_two_pow (hm _) (hm _)) (fun _ _ => hm _)]
  refine pkN_congr fun i _ => ?_
  rw [rot_lane _ _ h1.1 h1.2, rot_lane _ _ h2.1 h2.2, rot_lane _ _ h3.1 h3.2]
  unfold mixU xw
  rw [UInt32.toNat_xor, UInt32.toNat_xor]
theorem x3_sig {n : Nat} (f : Nat → UInt32) (s1 s2 s3 : Nat) (h1 : 0 < s1 ∧ s1 < 32) (h2 : 0 < s2 ∧ s2 < 32) (h3 : s3 < 32) :
    x3 (pkN n fun _ => 4294967295) (pk n f * 4294967297) s1 s2 (pk n f) s3 = pk n (fun i => xw (xw (rotr (f i) s1) (rotr (f i) s2)) (sw (f i) s3)) := by
  have hb : ∀ i, i < n → (f i).toNat * 4294967297 < 2 ^ 64 := fun i _ => by have := (f i).toNat_lt; omega
  have hm : ∀ x : Nat, x &&& 4294967295 < 2 ^ 64 := fun x => Nat.and_lt_two_pow x (by decide)
  unfold x3 pk
  rw [pkN_mul, Nat.and_xor_distrib_right, Nat.and_xor_distrib_right, pkN_shr hb s1 (by omega), pkN_shr hb s2 (by omega), pkN_shr (fun i _ => u64 _) s3 (by omega), pkN_xor (fun _ _ => hm _) (fun _ _ => hm _), pkN_xor (fun _ _ => Nat.xor_lt_two_pow (hm _) (hm _)) (fun _ _ => hm _)]
  refine pkN_congr fun i _ => ?_
  rw [rot_lane _ _ h1.1 h1.2, rot_lane _ _ h2.1 h2.2, shr_lane _ _ h3]
  unfold xw
  rw [UInt32.toNat_xor, UInt32.toNat_xor]
theorem pk_xor {n : Nat} (f g : Nat → UInt32) : pk n f ^^^ pk n g = pk n (fun i => f i ^^^ g i) := by
  unfold pk
  rw [pkN_xor (fun _ _ => u64 _) (fun _ _ => u64 _)]
  exact pkN_congr fun i _ => (UInt32.toNat_xor _ _).symm
theorem pk_and {n : Nat} (f g : Nat → UInt32) : pk n f &&& pk n g = pk n (fun i => f i &&& g i) := by
  unfold pk
  rw [pkN_and (fun _ _ => u64 _) (fun _ _ => u64 _)]
  exact pkN_congr fun i _ => (UInt32.toNat_and _ _).symm
theorem ch_lane (e f g : UInt32) : g ^^^ (e &&& (f ^^^ g)) = chW e f g := by
  unfold chW xw nw cw
  apply UInt32.toBitVec_inj.1
  simp only [UInt32.toBitVec_xor, UInt32.toBitVec_and, UInt32.toBitVec_not]
  ext j hj
  simp only [BitVec.getElem_xor, BitVec.getElem_and, BitVec.getElem_not]
  cases e.toBitVec[j] <;> cases f.toBitVec[j] <;> cases g.toBitVec[j] <;> rfl
theorem maj_lane (a b c : UInt32) : b ^^^ ((b ^^^ c) &&& (a ^^^ b)) = majW a b c := by
  unfold majW xw nw
  apply UInt32.toBitVec_inj.1
  simp only [UInt32.toBitVec_xor, UInt32.toBitVec_and]
  ext j hj
  simp only [BitVec.getElem_xor, BitVec.getElem_and]
  cases a.toBitVec[j] <;> cases b.toBitVec[j] <;> cases c.toBitVec[j] <;> rfl
/-- the rounds of one lane -/
def runL (st : St) (Wf : Nat → UInt32) : List UInt32 → Nat → St
  | [], _ => st
  | k :: ks, t => runL (st.rnd k (Wf t)) Wf ks (t + 1)
/-- no lane's number is c -/
theorem fin_sound {n : Nat} {f : Nat → UInt32} (c : UInt32) (h : Nat.beq (((pk n f ^^^ (pkN n (fun _ => 1) * c.toNat)) + pkN n (fun _ => 4294967295)) &&& (pkN n (fun _ => 1) * 4294967296)) (pkN n (fun _ => 1) * 4294967296) = true) : ∀ i, i < n → f i ≠ c := by
  intro i hi hf
  have h := Nat.eq_of_beq_eq_true h
  have hx : ∀ j, (f j).toNat ^^^ (1 * c.toNat) < 2 ^ 32 := fun j => by rw [Nat.one_mul]; exact Nat.xor_lt_two_pow (f j).toNat_lt c.toNat_lt
  have hb : ∀ j, ((f j).toNat ^^^ (1 * c.toNat)) + 4294967295 < 2 ^ 64 := fun j => by have := hx j; omega
  unfold pk at h
  rw [pkN_mul, pkN_mul, pkN_xor (fun _ _ => u64 _) (fun _ _ => by rw [Nat.one_mul]; exact u64 _), pkN_add, pkN_and (fun j _ => hb j) (fun _ _ => by decide)] at h
  have hbit := congrArg (fun x => Nat.testBit x (64 * i + 32)) h
  rw [pkN_bit n _ (fun j _ => Nat.and_lt_two_pow _ (by decide)), pkN_bit n _ (fun _ _ => by decide)] at hbit
  have e1 : (64 * i + 32) / 64 = i := by omega
  have e2 : (64 * i + 32) % 64 = 32 := by omega
  rw [e1, e2, hf, Nat.one_mul, Nat.xor_self] at hbit
  simp [hi] at hbit
  exact absurd hbit (by decide)
section
variable {n : Nat} {Wf : Nat → Nat → UInt32}
theorem vRounds_sound (hW : ∀ i t, Wf i (t + 16) = aw (aw (aw (Wf i t) (sig0 (Wf i (t + 1)))) (Wf i (t + 9))) (sig1 (Wf i (t + 14)))) : ∀ (ks : List UInt32) (st : Nat → St) (t : Nat),
    vRounds (pkN n fun _ => 1) (pkN n fun _ => 4294967295) (ks.map UInt32.toNat) (pk n fun i => (st i).a) (pk n fun i => (st i).b) (pk n fun i => (st i).c) (pk n fun i => (st i).d) (pk n fun i => (st i).e) (pk n fun i => (st i).f) (pk n fun i => (st i).g) (pk n fun i => (st i).h) (pk n fun i => (st i).b ^^^ (st i).c)
      (pk n fun i => Wf i (t + 0)) (pk n fun i => Wf i (t + 1)) (pk n fun i => Wf i (t + 2)) (pk n fun i => Wf i (t + 3)) (pk n fun i => Wf i (t + 4)) (pk n fun i => Wf i (t + 5)) (pk n fun i => Wf i (t + 6)) (pk n fun i => Wf i (t + 7)) (pk n fun i => Wf i (t + 8)) (pk n fun i => Wf i (t + 9)) (pk n fun i => Wf i (t + 10)) (pk n fun i => Wf i (t + 11)) (pk n fun i => Wf i (t + 12)) (pk n fun i => Wf i (t + 13)) (pk n fun i => Wf i (t + 14)) (pk n fun i => Wf i (t + 15)) = true → ∀ i, i < n → (runL (st i) (Wf i) ks t).a ≠ 2515933592
  | [], st, t, h => by
    rw [List.map_nil, vRounds_nil] at h
    exact fin_sound (f := fun i => (st i).a) 2515933592 h
  | k :: ks, st, t, h => by
    rw [List.map_cons, vRounds_cons] at h
    have ih := vRounds_sound hW ks (fun i => (st i).rnd k (Wf i t)) (t + 1)
    refine ih ?_
    rw [← h]
    have hm : ∀ x : Nat, x % 4294967296 < 2 ^ 64 := fun x => Nat.lt_trans (Nat.mod_lt _ (by decide)) (by decide)
    -- the parts
    have pS1 := x3_rot (n := n) (fun i => (st i).e) 6 11 25 (by decide) (by decide) (by decide)
    have pS0 := x3_rot (n := n) (fun i => (st i).a) 2 13 22 (by decide) (by decide) (by decide)
    have ps0 := x3_sig (n := n) (fun i => Wf i (t + 1)) 7 18 3 (by decide) (by decide) (by decide)
    have ps1 := x3_sig (n := n) (fun i => Wf i (t + 14)) 17 19 10 (by decide) (by decide) (by decide)
    have pch : (pk n fun i => (st i).g) ^^^ ((pk n fun i => (st i).e) &&& ((pk n fun i => (st i).f) ^^^ (pk n fun i => (st i).g))) = pk n fun i => chW (st i).e (st i).f (st i).g := by
      rw [pk_xor, pk_and, pk_xor]
      exact pkN_congr fun i _ => by dsimp only; rw [ch_lane]
    have pmj : (pk n fun i => (st i).b) ^^^ ((pk n fun i => (st i).b ^^^ (st i).c) &&& ((pk n fun i => (st i).a) ^^^ (pk n fun i => (st i).b))) = pk n fun i => majW (st i).a (st i).b (st i).c := by
      rw [pk_xor, pk_and, pk_xor]
      exact pkN_congr fun i _ => by dsimp only; rw [maj_lane]
    have pk1 : (pkN n fun _ => 1) * k.toNat = pkN n fun _ => k.toNat := by rw [pkN_mul]; exact pkN_congr fun _ _ => Nat.one_mul _
    rw [pS1, pS0, ps0, ps1, pch, pmj, pk1, pk_xor]
    have e0 : ∀ j : Nat, (pk n fun i => Wf i (t + 1 + j)) = pk n fun i => Wf i (t + (j + 1)) := fun j => by
      unfold pk
      exact pkN_congr fun i _ => by rw [show t + 1 + j = t + (j + 1) by omega]
    simp only [e0, Nat.reduceAdd]
    have ea : ((pk n fun i => ((st i).rnd k (Wf i t)).a)) = (pk n (fun i => (st i).h) + pk n (fun i => mixU (st i).e 6 11 25) + pk n (fun i => chW (st i).e (st i).f (st i).g) + (pk n (fun i => Wf i (t + 0)) + pkN n fun _ => k.toNat) + (pk n (fun i => mixU (st i).a 2 13 22) + pk n (fun i => majW (st i).a (st i).b (st i).c))) &&& (pkN n fun _ => 4294967295) := by
      unfold pk
      rw [pkN_add, pkN_add, pkN_add, pkN_add, pkN_add, pkN_add, pkN_mask (fun i _ => by
        have := (st i).h.toNat_lt; have := (mixU (st i).e 6 11 25).toNat_lt; have := (chW (st i).e (st i).f (st i).g).toNat_lt; have := (Wf i (t + 0)).toNat_lt; have := k.toNat_lt; have := (mixU (st i).a 2 13 22).toNat_lt; have := (majW (st i).a (st i).b (st i).c).toNat_lt
        dsimp only
        omega)]
      refine pkN_congr fun i _ => ?_
      simp only [St.rnd, rndX, rndY, aw, UInt32.toNat_add, Nat.add_zero]
      omega
    have ee : ((pk n fun i => ((st i).rnd k (Wf i t)).e)) = (pk n (fun i => (st i).d) + (pk n (fun i => (st i).h) + pk n (fun i => mixU (st i).e 6 11 25) + pk n (fun i => chW (st i).e (st i).f (st i).g) + (pk n (fun i => Wf i (t + 0)) + pkN n fun _ => k.toNat))) &&& (pkN n fun _ => 4294967295) := by
      unfold pk
      rw [pkN_add, pkN_add, pkN_add, pkN_add, pkN_add, pkN_mask (fun i _ => by
        have := (st i).h.toNat_lt; have := (mixU (st i).e 6 11 25).toNat_lt; have := (chW (st i).e (st i).f (st i).g).toNat_lt; have := (Wf i (t + 0)).toNat_lt; have := k.toNat_lt; have := (st i).d.toNat_lt
        dsimp only
        omega)]
      refine pkN_congr fun i _ => ?_
      simp only [St.rnd, rndX, rndY, aw, UInt32.toNat_add, Nat.add_zero]
      omega
    have ew : (pk n fun i => Wf i (t + 16)) = (pk n (fun i => Wf i (t + 0)) + pk n (fun i => xw (xw (rotr (Wf i (t + 1)) 7) (rotr (Wf i (t + 1)) 18)) (sw (Wf i (t + 1)) 3)) + (pk n (fun i => Wf i (t + 9)) + pk n (fun i => xw (xw (rotr (Wf i (t + 14)) 17) (rotr (Wf i (t + 14)) 19)) (sw (Wf i (t + 14)) 10)))) &&& (pkN n fun _ => 4294967295) := by
      unfold pk
      rw [pkN_add, pkN_add, pkN_add, pkN_mask (fun i _ => by
        have := (Wf i (t + 0)).toNat_lt; have := (xw (xw (rotr (Wf i (t + 1)) 7) (rotr (Wf i (t + 1)) 18)) (sw (Wf i (t + 1)) 3)).toNat_lt; have := (Wf i (t + 9)).toNat_lt; have := (xw (xw (rotr (Wf i (t + 14)) 17) (rotr (Wf i (t + 14)) 19)) (sw (Wf i (t + 14)) 10)).toNat_lt
        dsimp only
        omega)]
      refine pkN_congr fun i _ => ?_
      dsimp only
      rw [hW]
      simp only [sig0, sig1, aw, UInt32.toNat_add, Nat.add_zero]
      omega
    rw [ea, ee, ew]
    rfl
end
end Go.Proofs.YtkchalnohkfhbaaDoor
/- What the lanes' check says of the words of package draw: a message of one block, its bytes as constants and lanes. Plain; nothing of the program stands here but the specification of its words. -/
namespace Go.Proofs.YtkchalnohkfhbaaDoor

/-! the rounds of a lane are those of the compression -/
/-- the words of the schedule, without end -/
def wF (b : List UInt8) (t : Nat) : UInt32 := nextW b (schedN b t)
theorem nth_sched (b : List UInt8) : ∀ m t, t < m → nth (schedN b m) t = wF b t := by
  intro m
  induction m with
  | zero => intro t h; omega
  | succ m ih =>
    intro t h
    unfold nth schedN
    by_cases e : t < m
    · rw [List.getElem?_append_left (by rw [schedN_length]; exact e)]
      exact ih t e
    · have : t = m := by omega
      subst this
      rw [List.getElem?_append_right (by rw [schedN_length]; exact Nat.le_refl _), schedN_length, Nat.sub_self]
      rfl
theorem wF_rec (b : List UInt8) (t : Nat) : wF b (t + 16) = aw (aw (aw (wF b t) (sig0 (wF b (t + 1)))) (wF b (t + 9))) (sig1 (wF b (t + 14))) := by
  unfold wF nextW
  rw [schedN_length, if_neg (by omega), show t + 16 - 16 = t by omega, show t + 16 - 15 = t + 1 by omega, show t + 16 - 7 = t + 9 by omega, show t + 16 - 2 = t + 14 by omega]
  rw [nth_sched b _ t (by omega), nth_sched b _ (t + 1) (by omega), nth_sched b _ (t + 9) (by omega), nth_sched b _ (t + 14) (by omega)]
  rfl
theorem runL_rnds (s : St) (W : List UInt32) (F : Nat → UInt32) : ∀ (ks : List UInt32) (t : Nat), (∀ j, j < ks.length → nth KS (t + j) = nth ks j ∧ nth W (t + j) = F (t + j)) → runL (s.rnds W t) F ks t = s.rnds W (t + ks.length) := by
  intro ks
  induction ks with
  | nil => intro t _; rfl
  | cons k ks ih =>
    intro t h
    have h0 := h 0 (by simp)
    have e1 : nth (k :: ks) 0 = k := rfl
    rw [Nat.add_zero, e1] at h0
    unfold runL
    have e2 : (s.rnds W t).rnd k (F t) = s.rnds W (t + 1) := by
      show _ = (s.rnds W t).rnd (nth KS t) (nth W t)
      rw [h0.1, h0.2]
    rw [e2, ih (t + 1) (fun j hj => by
      have := h (j + 1) (by simpa using hj)
      rw [show t + 1 + j = t + (j + 1) by omega]
      exact this), List.length_cons, show t + 1 + ks.length = t + (ks.length + 1) by omega]
theorem comp_a (s : St) (b : List UInt8) : (comp s b).a = aw s.a (runL s (wF b) KS 0).a := by
  have := runL_rnds s (schedN b 64) (wF b) KS 0 (fun j hj => ⟨by rw [Nat.zero_add], nth_sched b 64 _ (by have e : KS.length = 64 := rfl; omega)⟩)
  unfold comp St.plus
  rw [show s.rnds (schedN b 64) 0 = s from rfl, show 0 + KS.length = 64 from rfl] at this
  rw [this]
/-! the word out of the first word of the hash -/
theorem word_lt_of (s : ByteArray) (l : List Int) (t : Int) (h : (shaS (ofM 8 [s, txt (encInts (l ++ [t]))])).a ≠ 4294967295) : wordN s l t < 281474976645120 := by
  unfold wordN ofH sha
  generalize shaS (ofM 8 [s, txt (encInts (l ++ [t]))]) = q at *
  rw [List.take_take, show min 6 16 = 6 from rfl]
  have e : (outTo q 32).take 6 = [byt (q.a.toNat / 256 ^ 3 % 256), byt (q.a.toNat / 256 ^ 2 % 256), byt (q.a.toNat / 256 ^ 1 % 256), byt (q.a.toNat / 256 ^ 0 % 256), byt (q.b.toNat / 256 ^ 3 % 256), byt (q.b.toNat / 256 ^ 2 % 256)] := rfl
  rw [e]
  unfold num
  simp only [List.foldl_cons, List.foldl_nil, byt_toNat (Nat.mod_lt _ (by decide : 256 > 0))]
  have ha := q.a.toNat_lt
  have hne : q.a.toNat ≠ 4294967295 := fun e => h (UInt32.toNat_inj.1 e)
  have hb := q.b.toNat_lt
  omega
/-! a message of one block -/
theorem shaS_one (m : List UInt8) (h : m.length ≤ 55) : shaS m = comp S0 (m ++ padB m.length) := by
  have hl : (m ++ padB m.length).length = 64 := by
    rw [List.length_append, padB_length]
    unfold zeros
    omega
  unfold shaS
  rw [hl, show 64 / 64 = 1 from rfl]
  unfold stN blk
  rw [Nat.mul_zero, List.drop_zero, List.take_of_length_le (by rw [hl]; exact Nat.le_refl _)]
  rfl
/-- the first words of the schedule are those of the block -/
theorem part_nat (b : List UInt8) (t : Nat) : (wF b t).toNat = ((((b[4 * t]?.getD 0).toNat * 256 + (b[4 * t + 1]?.getD 0).toNat) * 256 + (b[4 * t + 2]?.getD 0).toNat) * 256 + (b[4 * t + 3]?.getD 0).toNat) ∨ 16 ≤ t := by
  by_cases ht : t < 16
  · left
    unfold wF nextW
    rw [schedN_length, if_pos ht]
    have step : ∀ (i x : Nat), i ≤ 3 → (part b t i).toNat = x → x < 16777216 → (part b t (i + 1)).toNat = x * 256 + (b[4 * t + i]?.getD 0).toNat := by
      intro i x hi hx hlt
      have hb := (b[4 * t + i]?.getD 0).toNat_lt
      have h1 := w_shl (part b t i) 8 (by omega)
      rw [hx] at h1
      have h2 : (lw (part b t i) 8).toNat = 2 ^ 8 * x := by omega
      show (ow (lw (part b t i) 8) (UInt32.ofNat _)).toNat = _
      unfold ow
      rw [UInt32.toNat_or, h2, UInt32.toNat_ofNat', Nat.mod_eq_of_lt (by omega), ← Nat.two_pow_add_eq_or_of_lt (by omega)]
      omega
    have b0 := (b[4 * t + 0]?.getD 0).toNat_lt
    have b1 := (b[4 * t + 1]?.getD 0).toNat_lt
    have b2 := (b[4 * t + 2]?.getD 0).toNat_lt
    have s1 := step 0 0 (by omega) rfl (by omega)
    have s2 := step 1 _ (by omega) s1 (by omega)
    have s3 := step 2 _ (by omega) s2 (by omega)
    have s4 := step 3 _ (by omega) s3 (by omega)
    rw [s4]
    simp only [Nat.add_zero]
    omega
  · right; omega
end Go.Proofs.YtkchalnohkfhbaaDoor
/- Messages whose bytes are constants and lanes; the check of a batch of them, and what it says of each lane. Plain; nothing of the program stands here but the specification of its words. -/
namespace Go.Proofs.YtkchalnohkfhbaaDoor

/-- a byte: a constant, and a lane's number (0: none) -/
structure BS where
  c : Nat
  k : Nat
def bsV (v : Nat → Nat → Nat) (i : Nat) (s : BS) : Nat := s.c + v s.k i
def bsB (v : Nat → Nat → Nat) (i : Nat) (s : BS) : UInt8 := byt (bsV v i s)
/-- the encoding of a number below 256 ahead of more -/
noncomputable abbrev e1 (x : Nat) (r : List BS) : List BS := Nat.rec (motive := fun _ => List BS) (⟨128, 0⟩ :: r) (fun y _ => ⟨129, 0⟩ :: ⟨Nat.succ y, 0⟩ :: r) x
/-- the encoding of a number of the path: a constant 0, or one that is not 0 -/
noncomputable abbrev eP (p : BS) (r : List BS) : List BS := Nat.rec (motive := fun _ => List BS) (⟨128, 0⟩ :: r) (fun _ _ => ⟨129, 0⟩ :: p :: r) p.c
noncomputable abbrev ePs (ps : List BS) (r : List BS) : List BS := List.rec (motive := fun _ => List BS) r (fun p _ ih => eP p ih) ps
noncomputable abbrev sdC (sd : List Nat) (r : List BS) : List BS := List.rec (motive := fun _ => List BS) r (fun x _ ih => ⟨x, 0⟩ :: ih) sd
noncomputable abbrev l1 (x : Nat) : Nat := Nat.rec (motive := fun _ => Nat) 1 (fun _ _ => 2) x
noncomputable abbrev lPs (ps : List BS) : Nat := List.rec (motive := fun _ => Nat) 0 (fun p _ ih => Nat.add (l1 p.c) ih) ps
noncomputable abbrev lI (ps : List BS) (a n : Nat) : Nat := Nat.add (Nat.add (l1 (Nat.add ps.length 3)) (lPs ps)) (Nat.add (Nat.add (l1 a) (l1 n)) 1)
noncomputable abbrev lM (sd : List Nat) (ps : List BS) (a n : Nat) : Nat := Nat.add (Nat.add (Nat.add 1 (l1 sd.length)) sd.length) (Nat.add (l1 (lI ps a n)) (lI ps a n))
noncomputable abbrev specM (sd : List Nat) (ps : List BS) (a n : Nat) (r : List BS) : List BS :=
  ⟨8, 0⟩ :: e1 sd.length (sdC sd (e1 (lI ps a n) (e1 (Nat.add ps.length 3) (ePs ps (e1 a (e1 n (⟨128, 0⟩ :: r)))))))
/-- the path of a lane -/
def pathI (ps : List BS) (v : Nat → Nat → Nat) (i : Nat) : List Int := ps.map fun p => if p.c = 0 then 0 else ((bsV v i p : Nat) : Int)

theorem encInt_all : ((List.range 256).all fun x => decide (encInt (x : Int) = if x = 0 then [byt 128] else [byt 129, byt x])) = true := by kernel_rfl
theorem encInt_small {x : Nat} (h : x < 256) : encInt (x : Int) = if x = 0 then [byt 128] else [byt 129, byt x] := by
  have := List.all_eq_true.1 encInt_all x (List.mem_range.2 h)
  exact of_decide_eq_true this
theorem l1_len {x : Nat} (h : x < 256) : l1 x = (encInt (x : Int)).length := by
  rw [encInt_small h]
  cases x with
  | zero => rfl
  | succ x => rw [if_neg (by omega)]; rfl
section
variable {v : Nat → Nat → Nat} {i : Nat} (h0 : v 0 i = 0)
include h0
theorem bs_const (c : Nat) : bsB v i ⟨c, 0⟩ = byt c := by unfold bsB bsV; rw [h0, Nat.add_zero]
theorem e1_map {x : Nat} (h : x < 256) (r : List BS) : (e1 x r).map (bsB v i) = encInt (x : Int) ++ r.map (bsB v i) := by
  rw [encInt_small h]
  cases x with
  | zero => show bsB v i ⟨128, 0⟩ :: _ = _; rw [bs_const h0]; rfl
  | succ x =>
    rw [if_neg (by omega)]
    show bsB v i ⟨129, 0⟩ :: bsB v i ⟨x + 1, 0⟩ :: _ = _
    rw [bs_const h0, bs_const h0]
    rfl
theorem ePs_map (r : List BS) : ∀ (ps : List BS), (∀ p ∈ ps, p.c ≠ 0 → bsV v i p < 256) → (ePs ps r).map (bsB v i) = cat (pathI ps v i) ++ r.map (bsB v i) ∧ lPs ps = (cat (pathI ps v i)).length
  | [], _ => ⟨rfl, rfl⟩
  | p :: ps, h => by
    obtain ⟨i1, i2⟩ := ePs_map r ps (fun q hq => h q (List.mem_cons_of_mem _ hq))
    have ec : cat (pathI (p :: ps) v i) = encInt (if p.c = 0 then 0 else ((bsV v i p : Nat) : Int)) ++ cat (pathI ps v i) := by simp [cat, pathI]
    rw [ec, List.append_assoc, ← i1, List.length_append, ← i2]
    obtain ⟨c, k⟩ := p
    cases c with
    | zero =>
      rw [if_pos rfl, show encInt 0 = [byt 128] by have := encInt_small (x := 0) (by decide); simpa using this]
      refine ⟨?_, rfl⟩
      show bsB v i ⟨128, 0⟩ :: _ = _
      rw [bs_const h0]
      rfl
    | succ c =>
      have hb := h ⟨c + 1, k⟩ (by simp) (by simp)
      have hne : bsV v i ⟨c + 1, k⟩ ≠ 0 := by unfold bsV; dsimp only; omega
      rw [if_neg (by simp), encInt_small hb, if_neg hne]
      refine ⟨?_, rfl⟩
      show bsB v i ⟨129, 0⟩ :: bsB v i ⟨c + 1, k⟩ :: _ = _
      rw [bs_const h0]
      rfl
theorem sdC_map (r : List BS) : ∀ (sd : List Nat), (sdC sd r).map (bsB v i) = sd.map byt ++ r.map (bsB v i)
  | [] => rfl
  | x :: sd => by
    have := sdC_map r sd
    show bsB v i ⟨x, 0⟩ :: _ = _
    rw [bs_const h0]
    show byt x :: (sdC sd r).map (bsB v i) = _
    rw [this]
    rfl
/-- THE MESSAGE OF A LANE -/
theorem specM_map {sd : List Nat} {ps : List BS} {a n : Nat} {s : ByteArray} (hs : s.data.toList = sd.map byt) (h1 : sd.length < 256) (h2 : ps.length + 3 < 256) (h3 : lI ps a n < 256) (ha : a < 256) (hn : n < 256) (hp : ∀ p ∈ ps, p.c ≠ 0 → bsV v i p < 256) (r : List BS) :
    (specM sd ps a n r).map (bsB v i) = ofM 8 [s, txt (encInts (pathI ps v i ++ [(a : Int), (n : Int)] ++ [0]))] ++ r.map (bsB v i) ∧ lM sd ps a n = (ofM 8 [s, txt (encInts (pathI ps v i ++ [(a : Int), (n : Int)] ++ [0]))]).length := by
  obtain ⟨i1, i2⟩ := ePs_map h0 (e1 a (e1 n (⟨128, 0⟩ :: r))) ps hp
  have hz : encInt 0 = [byt 128] := by have := encInt_small (x := 0) (by decide); simpa using this
  have hlen : (pathI ps v i ++ [(a : Int), (n : Int)] ++ [0]).length = ps.length + 3 := by simp [pathI]
  have hcat : cat (pathI ps v i ++ [(a : Int), (n : Int)] ++ [0]) = cat (pathI ps v i) ++ (encInt (a : Int) ++ (encInt (n : Int) ++ [byt 128])) := by simp [cat, hz]
  have hI : encInts (pathI ps v i ++ [(a : Int), (n : Int)] ++ [0]) = encInt ((ps.length + 3 : Nat) : Int) ++ (cat (pathI ps v i) ++ (encInt (a : Int) ++ (encInt (n : Int) ++ [byt 128]))) := by
    unfold encInts
    rw [hlen, hcat]
  have hIl : lI ps a n = (encInts (pathI ps v i ++ [(a : Int), (n : Int)] ++ [0])).length := by
    rw [hI, List.length_append, List.length_append, List.length_append, List.length_append, ← l1_len h2, ← i2, ← l1_len ha, ← l1_len hn]
    show (l1 (ps.length + 3) + lPs ps) + ((l1 a + l1 n) + 1) = _
    simp only [List.length_cons, List.length_nil]
    omega
  have htx : (txt (encInts (pathI ps v i ++ [(a : Int), (n : Int)] ++ [0]))).data.toList = encInts (pathI ps v i ++ [(a : Int), (n : Int)] ++ [0]) := by unfold txt; simp
  have hM : ofM 8 [s, txt (encInts (pathI ps v i ++ [(a : Int), (n : Int)] ++ [0]))] = byt 8 :: (encInt (sd.length : Int) ++ (sd.map byt ++ (encInt ((lI ps a n : Nat) : Int) ++ encInts (pathI ps v i ++ [(a : Int), (n : Int)] ++ [0])))) := by
    unfold ofM catS
    simp only [List.flatMap_cons, List.flatMap_nil, List.append_nil]
    unfold encBytes
    rw [htx, hs, List.length_map, ← hIl, List.append_assoc]
    rfl
  constructor
  · rw [hM, hI]
    show bsB v i ⟨8, 0⟩ :: (e1 sd.length (sdC sd (e1 (lI ps a n) (e1 (ps.length + 3) (ePs ps (e1 a (e1 n (⟨128, 0⟩ :: r)))))))).map (bsB v i) = _
    rw [bs_const h0, e1_map h0 h1, sdC_map h0, e1_map h0 h3, e1_map h0 h2, i1, e1_map h0 ha, e1_map h0 hn, List.map_cons, bs_const h0]
    simp
  · rw [hM, List.length_cons, List.length_append, List.length_append, List.length_append, ← hIl, ← l1_len h1, ← l1_len h3, List.length_map]
    show ((1 + l1 sd.length) + sd.length) + (l1 (lI ps a n) + lI ps a n) = _
    omega
end
/-! words of lanes -/
noncomputable abbrev tlB (L : List BS) : List BS := List.rec (motive := fun _ => List BS) [] (fun _ t _ => t) L
noncomputable abbrev hdB (L : List BS) : BS := List.rec (motive := fun _ => BS) ⟨0, 0⟩ (fun h _ _ => h) L
noncomputable abbrev dr4 (L : List BS) : List BS := tlB (tlB (tlB (tlB L)))
abbrev hor (a b c d : Nat) : Nat := Nat.add (Nat.mul (Nat.add (Nat.mul (Nat.add (Nat.mul a 256) b) 256) c) 256) d
noncomputable abbrev wd (one : Nat) (V : Nat → Nat) (L : List BS) : Nat :=
  Nat.add (Nat.mul one (hor (hdB L).c (hdB (tlB L)).c (hdB (tlB (tlB L))).c (hdB (tlB (tlB (tlB L)))).c)) (hor (V (hdB L).k) (V (hdB (tlB L)).k) (V (hdB (tlB (tlB L))).k) (V (hdB (tlB (tlB (tlB L)))).k))
/-- the round constants as naturals -/
noncomputable def KN : List Nat := [1116352408, 1899447441, 3049323471, 3921009573, 961987163, 1508970993, 2453635748, 2870763221, 3624381080, 310598401, 607225278, 1426881987, 1925078388, 2162078206, 2614888103, 3248222580, 3835390401, 4022224774, 264347078, 604807628, 770255983, 1249150122, 1555081692, 1996064986, 2554220882, 2821834349, 2952996808, 3210313671, 3336571891, 3584528711, 113926993, 338241895, 666307205, 773529912, 1294757372, 1396182291, 1695183700, 1986661051, 2177026350, 2456956037, 2730485921, 2820302411, 3259730800, 3345764771, 3516065817, 3600352804, 4094571909, 275423344, 430227734, 506948616, 659060556, 883997877, 958139571, 1322822218, 1537002063, 1747873779, 1955562222, 2024104815, 2227730452, 2361852424, 2428436474, 2756734187, 3204031479, 3329325298]
theorem KN_eq : KN = KS.map UInt32.toNat := by kernel_rfl
/-- the round constants, each by way of a number of a size of its own: such small numbers stay in memory among the great ones, and so what is freed around them stays with the process -/
noncomputable def KP : List Nat := [Nat.shiftRight (Nat.shiftLeft 1116352408 64) 64, Nat.shiftRight (Nat.shiftLeft 1899447441 192) 192, Nat.shiftRight (Nat.shiftLeft 3049323471 320) 320, Nat.shiftRight (Nat.shiftLeft 3921009573 448) 448, Nat.shiftRight (Nat.shiftLeft 961987163 576) 576, Nat.shiftRight (Nat.shiftLeft 1508970993 704) 704, Nat.shiftRight (Nat.shiftLeft 2453635748 832) 832, Nat.shiftRight (Nat.shiftLeft 2870763221 960) 960, Nat.shiftRight (Nat.shiftLeft 3624381080 1088) 1088, Nat.shiftRight (Nat.shiftLeft 310598401 1216) 1216, Nat.shiftRight (Nat.shiftLeft 607225278 1344) 1344, Nat.shiftRight (Nat.shiftLeft 1426881987 1472) 1472, Nat.shiftRight (Nat.shiftLeft 1925078388 1600) 1600, Nat.shiftRight (Nat.shiftLeft 2162078206 1728) 1728, Nat.shiftRight (Nat.shiftLeft 2614888103 1856) 1856, Nat.shiftRight (Nat.shiftLeft 3248222580 1984) 1984, Nat.shiftRight (Nat.shiftLeft 3835390401 2112) 2112, Nat.shiftRight (Nat.shiftLeft 4022224774 2240) 2240, Nat.shiftRight (Nat.shiftLeft 264347078 2368) 2368, Nat.shiftRight (Nat.shiftLeft 604807628 2496) 2496, Nat.shiftRight (Nat.shiftLeft 770255983 2624) 2624, Nat.shiftRight (Nat.shiftLeft 1249150122 2752) 2752, Nat.shiftRight (Nat.shiftLeft 1555081692 2880) 2880, Nat.shiftRight (Nat.shiftLeft 1996064986 3008) 3008, Nat.shiftRight (Nat.shiftLeft 2554220882 3136) 3136, Nat.shiftRight (Nat.shiftLeft 2821834349 3264) 3264, Nat.shiftRight (Nat.shiftLeft 2952996808 3392) 3392, Nat.shiftRight (Nat.shiftLeft 3210313671 3520) 3520, Nat.shiftRight (Nat.shiftLeft 3336571891 3648) 3648, Nat.shiftRight (Nat.shiftLeft 3584528711 3776) 3776, Nat.shiftRight (Nat.shiftLeft 113926993 3904) 3904, Nat.shiftRight (Nat.shiftLeft 338241895 4032) 4032, Nat.shiftRight (Nat.shiftLeft 666307205 4160) 4160, Nat.shiftRight (Nat.shiftLeft 773529912 4288) 4288, Nat.shiftRight (Nat.shiftLeft 1294757372 4416) 4416, Nat.shiftRight (Nat.shiftLeft 1396182291 4544) 4544, Nat.shiftRight (Nat.shiftLeft 1695183700 4672) 4672, Nat.shiftRight (Nat.shiftLeft 1986661051 4800) 4800, Nat.shiftRight (Nat.shiftLeft 2177026350 4928) 4928, Nat.shiftRight (Nat.shiftLeft 2456956037 5056) 5056, Nat.shiftRight (Nat.shiftLeft 2730485921 5184) 5184, Nat.shiftRight (Nat.shiftLeft 2820302411 5312) 5312, Nat.shiftRight (Nat.shiftLeft 3259730800 5440) 5440, Nat.shiftRight (Nat.shiftLeft 3345764771 5568) 5568, Nat.shiftRight (Nat.shiftLeft 3516065817 5696) 5696, Nat.shiftRight (Nat.shiftLeft 3600352804 5824) 5824, Nat.shiftRight (Nat.shiftLeft 4094571909 5952) 5952, Nat.shiftRight (Nat.shiftLeft 275423344 6080) 6080, Nat.shiftRight (Nat.shiftLeft 430227734 6208) 6208, Nat.shiftRight (Nat.shiftLeft 506948616 6336) 6336, Nat.shiftRight (Nat.shiftLeft 659060556 6464) 6464, Nat.shiftRight (Nat.shiftLeft 883997877 6592) 6592, Nat.shiftRight (Nat.shiftLeft 958139571 6720) 6720, Nat.shiftRight (Nat.shiftLeft 1322822218 6848) 6848, Nat.shiftRight (Nat.shiftLeft 1537002063 6976) 6976, Nat.shiftRight (Nat.shiftLeft 1747873779 7104) 7104, Nat.shiftRight (Nat.shiftLeft 1955562222 7232) 7232, Nat.shiftRight (Nat.shiftLeft 2024104815 7360) 7360, Nat.shiftRight (Nat.shiftLeft 2227730452 7488) 7488, Nat.shiftRight (Nat.shiftLeft 2361852424 7616) 7616, Nat.shiftRight (Nat.shiftLeft 2428436474 7744) 7744, Nat.shiftRight (Nat.shiftLeft 2756734187 7872) 7872, Nat.shiftRight (Nat.shiftLeft 3204031479 8000) 8000, Nat.shiftRight (Nat.shiftLeft 3329325298 8128) 8128]
theorem KP_eq : KP = KN := by kernel_rfl
/-- THE CHECK of a batch: no lane's hash begins with a word of ones alone -/
noncomputable def chkL (one M : Nat) (V : Nat → Nat) (L : List BS) (bits : Nat) : Bool :=
  vRounds one M KP (Nat.mul one 1779033703) (Nat.mul one 3144134277) (Nat.mul one 1013904242) (Nat.mul one 2773480762) (Nat.mul one 1359893119) (Nat.mul one 2600822924) (Nat.mul one 528734635) (Nat.mul one 1541459225) (Nat.mul one 2265538039)
    (wd one V L) (wd one V (dr4 L)) (wd one V (dr4 (dr4 L))) (wd one V (dr4 (dr4 (dr4 L)))) (wd one V (dr4 (dr4 (dr4 (dr4 L))))) (wd one V (dr4 (dr4 (dr4 (dr4 (dr4 L)))))) (wd one V (dr4 (dr4 (dr4 (dr4 (dr4 (dr4 L))))))) (wd one V (dr4 (dr4 (dr4 (dr4 (dr4 (dr4 (dr4 L)))))))) (wd one V (dr4 (dr4 (dr4 (dr4 (dr4 (dr4 (dr4 (dr4 L))))))))) (wd one V (dr4 (dr4 (dr4 (dr4 (dr4 (dr4 (dr4 (dr4 (dr4 L)))))))))) (wd one V (dr4 (dr4 (dr4 (dr4 (dr4 (dr4 (dr4 (dr4 (dr4 (dr4 L))))))))))) (wd one V (dr4 (dr4 (dr4 (dr4 (dr4 (dr4 (dr4 (dr4 (dr4 (dr4 (dr4 L)))))))))))) (wd one V (dr4 (dr4 (dr4 (dr4 (dr4 (dr4 (dr4 (dr4 (dr4 (dr4 (dr4 (dr4 L))))))))))))) (wd one V (dr4 (dr4 (dr4 (dr4 (dr4 (dr4 (dr4 (dr4 (dr4 (dr4 (dr4 (dr4 (dr4 L)))))))))))))) (wd one V (dr4 (dr4 (dr4 (dr4 (dr4 (dr4 (dr4 (dr4 (dr4 (dr4 (dr4 (dr4 (dr4 (dr4 L))))))))))))))) (Nat.mul one bits)
/-- byte m of a list, 0 behind its end -/
def atB (L : List BS) (m : Nat) : BS := L[m]?.getD ⟨0, 0⟩
theorem hd_at (L : List BS) : hdB L = atB L 0 := by cases L <;> rfl
theorem at_tl (L : List BS) (m : Nat) : atB (tlB L) m = atB L (m + 1) := by cases L <;> rfl
theorem at_dr (L : List BS) (m : Nat) : atB (dr4 L) m = atB L (m + 4) := by
  show atB (tlB (tlB (tlB (tlB L)))) m = _
  rw [at_tl, at_tl, at_tl, at_tl]
def wdN (v : Nat → Nat → Nat) (L : List BS) (j i : Nat) : Nat := ((bsV v i (atB L (4 * j)) * 256 + bsV v i (atB L (4 * j + 1))) * 256 + bsV v i (atB L (4 * j + 2))) * 256 + bsV v i (atB L (4 * j + 3))
theorem wd_eq {n : Nat} {v : Nat → Nat → Nat} {V : Nat → Nat} (hV : ∀ k, V k = pkN n (v k)) (L : List BS) : wd (pkN n fun _ => 1) V L = pkN n (wdN v L 0) := by
  show (pkN n fun _ => 1) * ((((hdB L).c * 256 + (hdB (tlB L)).c) * 256 + (hdB (tlB (tlB L))).c) * 256 + (hdB (tlB (tlB (tlB L)))).c) + (((V (hdB L).k * 256 + V (hdB (tlB L)).k) * 256 + V (hdB (tlB (tlB L))).k) * 256 + V (hdB (tlB (tlB (tlB L)))).k) = _
  rw [hd_at L, hd_at (tlB L), hd_at (tlB (tlB L)), hd_at (tlB (tlB (tlB L))), at_tl L, at_tl (tlB L), at_tl L, at_tl (tlB (tlB L)), at_tl (tlB L), at_tl L, hV, hV, hV, hV, pkN_mul, pkN_mul, pkN_add, pkN_mul, pkN_add, pkN_mul, pkN_add, pkN_add]
  refine pkN_congr fun i _ => ?_
  unfold wdN bsV
  simp only [Nat.mul_zero, Nat.zero_add, Nat.reduceAdd]
  omega
theorem wd_dr {v : Nat → Nat → Nat} (L : List BS) (j i : Nat) : wdN v (dr4 L) j i = wdN v L (j + 1) i := by
  unfold wdN
  rw [at_dr, at_dr, at_dr, at_dr, show 4 * j + 4 = 4 * (j + 1) by omega, show 4 * j + 1 + 4 = 4 * (j + 1) + 1 by omega, show 4 * j + 2 + 4 = 4 * (j + 1) + 2 by omega, show 4 * j + 3 + 4 = 4 * (j + 1) + 3 by omega]
set_option maxHeartbeats 4000000 in
theorem chkL_sound {n : Nat} {v : Nat → Nat → Nat} {V : Nat → Nat} (hV : ∀ k, V k = pkN n (v k)) {L : List BS} {len : Nat} (h : chkL (pkN n fun _ => 1) (pkN n fun _ => 4294967295) V L (8 * len) = true)
    (b : Nat → List UInt8) (hb : ∀ i, i < n → (∀ j, j < 15 → (wF (b i) j).toNat = wdN v L j i) ∧ (wF (b i) 15).toNat = 8 * len) : ∀ i, i < n → (comp S0 (b i)).a ≠ 4294967295 := by
  intro i hi he
  have key := vRounds_sound (n := n) (Wf := fun i => wF (b i)) (fun i t => wF_rec (b i) t) KS (fun _ => S0) 0 ?_ i hi
  · rw [comp_a] at he
    apply key
    have e1 := congrArg UInt32.toNat he
    unfold aw at e1
    rw [UInt32.toNat_add, show S0.a.toNat = 1779033703 from rfl, show (4294967295 : UInt32).toNat = 4294967295 from rfl] at e1
    apply UInt32.toNat_inj.1
    rw [show (2515933592 : UInt32).toNat = 2515933592 from rfl]
    have := (runL S0 (wF (b i)) KS 0).a.toNat_lt
    omega
  · have hk : ∀ (x : UInt32), (pk n fun _ => x) = (pkN n fun _ => 1) * x.toNat := fun x => by
      unfold pk
      rw [pkN_mul]
      exact pkN_congr fun _ _ => (Nat.one_mul _).symm
    have hw : ∀ j, j < 15 → (pk n fun i => wF (b i) (0 + j)) = pkN n (wdN v L j) := fun j hj => by
      unfold pk
      refine pkN_congr fun i hi => ?_
      dsimp only
      rw [Nat.zero_add]
      exact (hb i hi).1 j hj
    have hw15 : (pk n fun i => wF (b i) (0 + 15)) = (pkN n fun _ => 1) * (8 * len) := by
      unfold pk
      rw [pkN_mul]
      refine pkN_congr fun i hi => ?_
      dsimp only
      rw [Nat.zero_add, (hb i hi).2, Nat.one_mul]
    have hd : ∀ (L' : List BS) (j : Nat), (∀ m i, wdN v L' m i = wdN v L (m + j) i) → wd (pkN n fun _ => 1) V L' = pkN n (wdN v L j) := fun L' j e => by
      rw [wd_eq hV]
      exact pkN_congr fun i _ => by rw [e, Nat.zero_add]
    have d0 : ∀ m i, wdN v L m i = wdN v L (m + 0) i := fun m i => rfl
    have d1 : ∀ m i, wdN v (dr4 L) m i = wdN v L (m + 1) i := fun m i => by rw [wd_dr, d0, show m + 1 + 0 = m + 1 by omega]
    have d2 : ∀ m i, wdN v (dr4 (dr4 L)) m i = wdN v L (m + 2) i := fun m i => by rw [wd_dr, d1, show m + 1 + 1 = m + 2 by omega]
    have d3 : ∀ m i, wdN v (dr4 (dr4 (dr4 L))) m i = wdN v L (m + 3) i := fun m i => by rw [wd_dr, d2, show m + 1 + 2 = m + 3 by omega]
    have d4 : ∀ m i, wdN v (dr4 (dr4 (dr4 (dr4 L)))) m i = wdN v L (m + 4) i := fun m i => by rw [wd_dr, d3, show m + 1 + 3 = m + 4 by omega]
    have d5 : ∀ m i, wdN v (dr4 (dr4 (dr4 (dr4 (dr4 L))))) m i = wdN v L (m + 5) i := fun m i => by rw [wd_dr, d4, show m + 1 + 4 = m + 5 by omega]
    have d6 : ∀ m i, wdN v (dr4 (dr4 (dr4 (dr4 (dr4 (dr4 L)))))) m i = wdN v L (m + 6) i := fun m i => by rw [wd_dr, d5, show m + 1 + 5 = m + 6 by omega]
    have d7 : ∀ m i, wdN v (dr4 (dr4 (dr4 (dr4 (dr4 (dr4 (dr4 L))))))) m i = wdN v L (m + 7) i := fun m i => by rw [wd_dr, d6, show m + 1 + 6 = m + 7 by omega]
    have d8 : ∀ m i, wdN v (dr4 (dr4 (dr4 (dr4 (dr4 (dr4 (dr4 (dr4 L)))))))) m i = wdN v L (m + 8) i := fun m i => by rw [wd_dr, d7, show m + 1 + 7 = m + 8 by omega]
    have d9 : ∀ m i, wdN v (dr4 (dr4 (dr4 (dr4 (dr4 (dr4 (dr4 (dr4 (dr4 L))))))))) m i = wdN v L (m + 9) i := fun m i => by rw [wd_dr, d8, show m + 1 + 8 = m + 9 by omega]
    have d10 : ∀ m i, wdN v (dr4 (dr4 (dr4 (dr4 (dr4 (dr4 (dr4 (dr4 (dr4 (dr4 L)))))))))) m i = wdN v L (m + 10) i := fun m i => by rw [wd_dr, d9, show m + 1 + 9 = m + 10 by omega]
    have d11 : ∀ m i, wdN v (dr4 (dr4 (dr4 (dr4 (dr4 (dr4 (dr4 (dr4 (dr4 (dr4 (dr4 L))))))))))) m i = wdN v L (m + 11) i := fun m i => by rw [wd_dr, d10, show m + 1 + 10 = m + 11 by omega]
    have d12 : ∀ m i, wdN v (dr4 (dr4 (dr4 (dr4 (dr4 (dr4 (dr4 (dr4 (dr4 (dr4 (dr4 (dr4 L)))))))))))) m i = wdN v L (m + 12) i := fun m i => by rw [wd_dr, d11, show m + 1 + 11 = m + 12 by omega]
    have d13 : ∀ m i, wdN v (dr4 (dr4 (dr4 (dr4 (dr4 (dr4 (dr4 (dr4 (dr4 (dr4 (dr4 (dr4 (dr4 L))))))))))))) m i = wdN v L (m + 13) i := fun m i => by rw [wd_dr, d12, show m + 1 + 12 = m + 13 by omega]
    have d14 : ∀ m i, wdN v (dr4 (dr4 (dr4 (dr4 (dr4 (dr4 (dr4 (dr4 (dr4 (dr4 (dr4 (dr4 (dr4 (dr4 L)))))))))))))) m i = wdN v L (m + 14) i := fun m i => by rw [wd_dr, d13, show m + 1 + 13 = m + 14 by omega]
    rw [← KN_eq]
    rw [hw 0 (by decide), hw 1 (by decide), hw 2 (by decide), hw 3 (by decide), hw 4 (by decide), hw 5 (by decide), hw 6 (by decide), hw 7 (by decide), hw 8 (by decide), hw 9 (by decide), hw 10 (by decide), hw 11 (by decide), hw 12 (by decide), hw 13 (by decide), hw 14 (by decide), hw15]
    rw [hk S0.a, hk S0.b, hk S0.c, hk S0.d, hk S0.e, hk S0.f, hk S0.g, hk S0.h, hk (S0.b ^^^ S0.c)]
    unfold chkL at h
    rw [KP_eq] at h
    rw [hd _ 0 d0, hd _ 1 d1, hd _ 2 d2, hd _ 3 d3, hd _ 4 d4, hd _ 5 d5, hd _ 6 d6, hd _ 7 d7, hd _ 8 d8, hd _ 9 d9, hd _ 10 d10, hd _ 11 d11, hd _ 12 d12, hd _ 13 d13, hd _ 14 d14] at h
    exact h
theorem e1_mem {v : Nat → Nat → Nat} {i : Nat} (h0 : v 0 i = 0) {x : Nat} (h : x < 256) {r : List BS} (hr : ∀ y ∈ r, bsV v i y < 256) : ∀ y ∈ e1 x r, bsV v i y < 256 := by
  have hc : ∀ c, c < 256 → bsV v i ⟨c, 0⟩ < 256 := fun c hc => by unfold bsV; rw [h0]; omega
  intro y hy
  cases x with
  | zero =>
    rcases List.mem_cons.1 (show y ∈ BS.mk 128 0 :: r from hy) with rfl | hy
    · exact hc _ (by decide)
    · exact hr y hy
  | succ x =>
    rcases List.mem_cons.1 (show y ∈ BS.mk 129 0 :: BS.mk (x + 1) 0 :: r from hy) with rfl | hy
    · exact hc _ (by decide)
    · rcases List.mem_cons.1 hy with rfl | hy
      · exact hc _ h
      · exact hr y hy
theorem ePs_mem {v : Nat → Nat → Nat} {i : Nat} (h0 : v 0 i = 0) {r : List BS} (hr : ∀ y ∈ r, bsV v i y < 256) : ∀ (ps : List BS), (∀ p ∈ ps, p.c ≠ 0 → bsV v i p < 256) → ∀ y ∈ ePs ps r, bsV v i y < 256
  | [], _ => hr
  | p :: ps, h => by
    have ih := ePs_mem h0 hr ps (fun q hq => h q (List.mem_cons_of_mem _ hq))
    have hc : ∀ c, c < 256 → bsV v i ⟨c, 0⟩ < 256 := fun c hc => by unfold bsV; rw [h0]; omega
    obtain ⟨c, k⟩ := p
    intro y hy
    cases c with
    | zero =>
      rcases List.mem_cons.1 (show y ∈ BS.mk 128 0 :: ePs ps r from hy) with rfl | hy
      · exact hc _ (by decide)
      · exact ih y hy
    | succ c =>
      rcases List.mem_cons.1 (show y ∈ BS.mk 129 0 :: BS.mk (c + 1) k :: ePs ps r from hy) with rfl | hy
      · exact hc _ (by decide)
      · rcases List.mem_cons.1 hy with rfl | hy
        · exact h _ (by simp) (by simp)
        · exact ih y hy
theorem sdC_mem {v : Nat → Nat → Nat} {i : Nat} (h0 : v 0 i = 0) {r : List BS} (hr : ∀ y ∈ r, bsV v i y < 256) : ∀ (sd : List Nat), (∀ x ∈ sd, x < 256) → ∀ y ∈ sdC sd r, bsV v i y < 256
  | [], _ => hr
  | x :: sd, h => by
    have ih := sdC_mem h0 hr sd (fun q hq => h q (List.mem_cons_of_mem _ hq))
    intro y hy
    rcases List.mem_cons.1 (show y ∈ BS.mk x 0 :: sdC sd r from hy) with rfl | hy
    · have := h x (by simp)
      unfold bsV
      rw [h0]
      exact this
    · exact ih y hy
theorem spec_lt {v : Nat → Nat → Nat} {i : Nat} (h0 : v 0 i = 0) {sd : List Nat} {ps : List BS} {a n : Nat} (hsb : ∀ x ∈ sd, x < 256) (h1 : sd.length < 200) (h2 : ps.length < 200) (h3 : lI ps a n < 256) (ha : a < 256) (hn : n < 256) (hp : ∀ p ∈ ps, p.c ≠ 0 → bsV v i p < 256) :
    ∀ y ∈ specM sd ps a n [⟨128, 0⟩], bsV v i y < 256 := by
  have hc : ∀ c, c < 256 → bsV v i ⟨c, 0⟩ < 256 := fun c hc => by unfold bsV; rw [h0]; omega
  intro y hy
  rcases List.mem_cons.1 hy with rfl | hy
  · exact hc _ (by decide)
  · refine e1_mem h0 (by omega) (sdC_mem h0 (e1_mem h0 h3 (e1_mem h0 (show ps.length + 3 < 256 by omega) (ePs_mem h0 (e1_mem h0 ha (e1_mem h0 hn ?_)) ps hp))) sd hsb) y hy
    intro z hz
    simp only [List.mem_cons, List.not_mem_nil, or_false] at hz
    rcases hz with rfl | rfl <;> exact hc _ (by decide)
/-! the block -/
theorem pad_lo {m : List UInt8} (h : m.length ≤ 55) {j : Nat} (hj : j < 60) : ((m ++ padB m.length)[j]?.getD 0) = ((m ++ [byt 128])[j]?.getD 0) := by
  rcases Nat.lt_trichotomy j m.length with h1 | h1 | h1
  · rw [List.getElem?_append_left h1, List.getElem?_append_left h1]
  · subst h1
    rw [List.getElem?_append_right (Nat.le_refl _), List.getElem?_append_right (Nat.le_refl _), Nat.sub_self]
    rfl
  · rw [List.getElem?_append_right (by omega), List.getElem?_eq_none (l := m ++ [byt 128]) (by simp; omega)]
    have hz : zeros m.length = 55 - m.length := by unfold zeros; omega
    unfold padB
    rw [hz]
    obtain ⟨r, hr⟩ : ∃ r, j - m.length = r + 1 := ⟨j - m.length - 1, by omega⟩
    rw [hr, List.cons_append, List.getElem?_cons_succ]
    by_cases h2 : r < 55 - m.length
    · rw [List.getElem?_append_left (by simpa using h2), List.getElem?_replicate, if_pos h2]
      rfl
    · rw [List.getElem?_append_right (by simp; omega), List.length_replicate]
      obtain ⟨q, hq⟩ : ∃ q, r - (55 - m.length) = q := ⟨_, rfl⟩
      rw [hq]
      have hq4 : q < 4 := by omega
      unfold lenB
      rw [List.getElem?_map, List.getElem?_range (by omega)]
      show byt (8 * m.length / 256 ^ (7 - q) % 256) = 0
      have e0 : 8 * m.length / 256 ^ (7 - q) = 0 := by
        apply Nat.div_eq_of_lt
        refine Nat.lt_of_lt_of_le (show 8 * m.length < 256 ^ 4 by omega) (Nat.pow_le_pow_right (by decide) (by omega))
      rw [e0]
      rfl
theorem pad_hi {m : List UInt8} (h : m.length ≤ 55) : (wF (m ++ padB m.length) 15).toNat = 8 * m.length := by
  have hz : zeros m.length = 55 - m.length := by unfold zeros; omega
  have at_ : ∀ q, q < 8 → ((m ++ padB m.length)[56 + q]?.getD 0) = byt (8 * m.length / 256 ^ (7 - q) % 256) := by
    intro q hq
    rw [List.getElem?_append_right (by omega)]
    unfold padB
    rw [hz, show 56 + q - m.length = (55 - m.length) + 1 + q by omega]
    rw [List.getElem?_append_right (by simp <;> omega)]
    simp only [List.length_cons, List.length_replicate]
    rw [show 55 - m.length + 1 + q - (55 - m.length + 1) = q by omega]
    unfold lenB
    rw [List.getElem?_map, List.getElem?_range hq]
    rfl
  rcases part_nat (m ++ padB m.length) 15 with e | e
  · rw [e, show 4 * 15 = 56 + 4 from rfl, show 56 + 4 + 1 = 56 + 5 from rfl, show 56 + 4 + 2 = 56 + 6 from rfl, show 56 + 4 + 3 = 56 + 7 from rfl, at_ 4 (by decide), at_ 5 (by decide), at_ 6 (by decide), at_ 7 (by decide)]
    simp only [byt_toNat (Nat.mod_lt _ (by decide : 256 > 0))]
    omega
  · omega
/-- WHAT THE CHECK SAYS: the word of each lane is accepted -/
theorem batch_sound {nl : Nat} {v : Nat → Nat → Nat} {V : Nat → Nat} (hV : ∀ k, V k = pkN nl (v k)) (h0 : ∀ i, v 0 i = 0) {sd : List Nat} {ps : List BS} {a n : Nat} {s : ByteArray} (hs : s.data.toList = sd.map byt) (hsb : ∀ x ∈ sd, x < 256)
    (h1 : sd.length < 200) (h2 : ps.length < 200) (h3 : lI ps a n < 256) (h4 : lM sd ps a n ≤ 55) (ha : a < 256) (hn : n < 256) (hp : ∀ i, i < nl → ∀ p ∈ ps, p.c ≠ 0 → bsV v i p < 256)
    (h : chkL (pkN nl fun _ => 1) (pkN nl fun _ => 4294967295) V (specM sd ps a n [⟨128, 0⟩]) (8 * lM sd ps a n) = true) :
    ∀ i, i < nl → wordN s (pathI ps v i ++ [(a : Int), (n : Int)]) 0 < 281474976645120 := by
  intro i hi
  refine word_lt_of _ _ _ ?_
  have hsp : ∀ i, i < nl → _ := fun i hi => specM_map (h0 i) hs (by omega) (by omega) h3 ha hn (hp i hi) [⟨128, 0⟩]
  have hl : (ofM 8 [s, txt (encInts (pathI ps v i ++ [(a : Int), (n : Int)] ++ [0]))]).length ≤ 55 := by rw [← (hsp i hi).2]; exact h4
  rw [shaS_one _ hl]
  refine chkL_sound hV h (fun i => ofM 8 [s, txt (encInts (pathI ps v i ++ [(a : Int), (n : Int)] ++ [0]))] ++ padB (ofM 8 [s, txt (encInts (pathI ps v i ++ [(a : Int), (n : Int)] ++ [0]))]).length) (fun i hi => ?_) i hi
  obtain ⟨e1, e2⟩ := hsp i hi
  have hl : (ofM 8 [s, txt (encInts (pathI ps v i ++ [(a : Int), (n : Int)] ++ [0]))]).length ≤ 55 := by rw [← e2]; exact h4
  have hbs : [BS.mk 128 0].map (bsB v i) = [byt 128] := by simp [bs_const (h0 i)]
  rw [hbs] at e1
  refine ⟨fun j hj => ?_, by rw [e2]; exact pad_hi hl⟩
  rcases part_nat (ofM 8 [s, txt (encInts (pathI ps v i ++ [(a : Int), (n : Int)] ++ [0]))] ++ padB (ofM 8 [s, txt (encInts (pathI ps v i ++ [(a : Int), (n : Int)] ++ [0]))]).length) j with e | e
  · rw [e, pad_lo hl (by omega), pad_lo hl (by omega), pad_lo hl (by omega), pad_lo hl (by omega), ← e1]
    have hat : ∀ m, (((specM sd ps a n [⟨128, 0⟩]).map (bsB v i))[m]?.getD 0).toNat = bsV v i (atB (specM sd ps a n [⟨128, 0⟩]) m) := by
      intro m
      unfold atB
      rw [List.getElem?_map]
      cases hm : (specM sd ps a n [⟨128, 0⟩])[m]? with
      | none => show (0 : UInt8).toNat = bsV v i ⟨0, 0⟩; unfold bsV; rw [h0]; rfl
      | some x =>
        show (byt (bsV v i x)).toNat = bsV v i x
        exact byt_toNat (spec_lt (h0 i) hsb h1 h2 h3 ha hn (hp i hi) x (List.mem_of_getElem? hm))
    rw [hat, hat, hat, hat]
    rfl
  · omega
end Go.Proofs.YtkchalnohkfhbaaDoor
/- The batches of the draws of made splits: 9801 lanes, two of the path's numbers in them; what their checks say of the words. Plain; nothing of the program stands here but the specification of its words. -/
namespace Go.Proofs.YtkchalnohkfhbaaDoor

/-- the lanes' numbers -/
def vv (k i : Nat) : Nat := match k with
  | 0 => 0
  | 1 => i / 99
  | _ + 2 => i % 99
/-- sum of f r * 2 ^ (s * r), r below n -/
noncomputable def sumP (s : Nat) (f : Nat → Nat) (n : Nat) : Nat := Nat.rec (motive := fun _ => Nat) 0 (fun r ih => Nat.add ih (Nat.mul (f r) (Nat.pow 2 (Nat.mul s r)))) n
noncomputable def onS : Nat := sumP 64 (fun _ => 1) 99
noncomputable def v2S : Nat := sumP 64 (fun r => r) 99
noncomputable def mkS : Nat := onS * 4294967295
noncomputable def bl1 : Nat := sumP 6336 (fun _ => 1) 99
noncomputable def bl2 : Nat := sumP 6336 (fun r => r) 99
noncomputable def onC : Nat := onS * bl1
noncomputable def mkC : Nat := onC * 4294967295
noncomputable def v1C : Nat := onS * bl2
noncomputable def v2C : Nat := v2S * bl1
noncomputable def VC (k : Nat) : Nat := Nat.rec (motive := fun _ => Nat) 0 (fun k' _ => Nat.rec (motive := fun _ => Nat) v1C (fun _ _ => v2C) k') k
noncomputable def VS (k : Nat) : Nat := Nat.rec (motive := fun _ => Nat) 0 (fun k' _ => Nat.rec (motive := fun _ => Nat) 0 (fun _ _ => v2S) k') k
theorem pkN_append (a : Nat) : ∀ (b : Nat) (g : Nat → Nat), pkN (a + b) g = pkN a g + 2 ^ (64 * a) * pkN b (fun i => g (i + a)) := by
  induction a with
  | zero => intro b g; simp [pkN]
  | succ a ih =>
    intro b g
    have h := ih b (fun i => g (i + 1))
    have e : (pkN b fun i => g (i + (a + 1))) = pkN b fun i => (fun i => g (i + 1)) (i + a) := pkN_congr fun i _ => rfl
    rw [show a + 1 + b = (a + b) + 1 by omega, e, show 64 * (a + 1) = 64 + 64 * a by omega, Nat.pow_add, Nat.mul_assoc]
    show 2 ^ 64 * pkN (a + b) (fun i => g (i + 1)) + g 0 = (2 ^ 64 * pkN a (fun i => g (i + 1)) + g 0) + _
    rw [h]
    generalize 2 ^ (64 * a) * pkN b (fun i => (fun i => g (i + 1)) (i + a)) = z
    omega
theorem sumP_pk (f : Nat → Nat) : ∀ n, sumP 64 f n = pkN n f
  | 0 => rfl
  | n + 1 => by
    have h := pkN_append n 1 f
    have e : pkN 1 (fun i => f (i + n)) = f n := by simp [pkN]
    rw [e] at h
    rw [h, ← sumP_pk f n, Nat.mul_comm (2 ^ (64 * n))]
    rfl
theorem sumP_blocks (p : Nat) (f g : Nat → Nat) : ∀ q, (pkN (p * q) (fun i => f (i / p) * g (i % p))) = pkN p g * sumP (64 * p) f q
  | 0 => rfl
  | q + 1 => by
    rw [Nat.mul_add, Nat.mul_one, pkN_append, sumP_blocks p f g q]
    have e : pkN p (fun i => f ((i + p * q) / p) * g ((i + p * q) % p)) = pkN p g * f q := by
      rw [pkN_mul]
      refine pkN_congr fun i hi => ?_
      have hp : 0 < p := by omega
      rw [Nat.add_mul_div_left _ _ hp, Nat.div_eq_of_lt hi, Nat.add_mul_mod_self_left, Nat.mod_eq_of_lt hi, Nat.zero_add, Nat.mul_comm]
    rw [e]
    show _ = pkN p g * (sumP (64 * p) f q + f q * 2 ^ (64 * p * q))
    rw [Nat.mul_add, show 64 * (p * q) = 64 * p * q by rw [Nat.mul_assoc], Nat.mul_comm (2 ^ (64 * p * q)), Nat.mul_assoc]
theorem oneS_pk : (pkN 99 fun _ => 1) = onS := (sumP_pk _ _).symm
theorem v2S_pk : (pkN 99 fun r => r) = v2S := (sumP_pk _ _).symm
theorem blk_eq {p q : Nat} {f g h : Nat → Nat} {G S : Nat} (hG : pkN p g = G) (hS : sumP (64 * p) f q = S) (hh : ∀ i, f (i / p) * g (i % p) = h i) : pkN (p * q) h = G * S := by
  rw [← hG, ← hS, ← sumP_blocks]
  exact pkN_congr fun i _ => (hh i).symm
theorem bl1_eq : sumP (64 * 99) (fun _ => 1) 99 = bl1 := by
  unfold bl1
  rw [show 64 * 99 = 6336 from rfl]
theorem bl2_eq : sumP (64 * 99) (fun r => r) 99 = bl2 := by
  unfold bl2
  rw [show 64 * 99 = 6336 from rfl]
theorem one_pk : (pkN 9801 fun _ => 1) = onC := by
  unfold onC
  rw [show 9801 = 99 * 99 from rfl]
  exact blk_eq oneS_pk bl1_eq (fun _ => rfl)
theorem msk_pk : (pkN 9801 fun _ => 4294967295) = mkC := by
  unfold mkC
  rw [← one_pk, pkN_mul]
theorem mskS_pk : (pkN 99 fun _ => 4294967295) = mkS := by
  unfold mkS
  rw [← oneS_pk, pkN_mul]
theorem pkN_zero (n : Nat) : pkN n (fun _ => 0) = 0 := by
  have := pkN_mul n 0 (fun _ => 1)
  rw [Nat.mul_zero] at this
  exact this.symm
theorem v1C_pk : v1C = pkN 9801 (fun i => i / 99) := by
  unfold v1C
  rw [show 9801 = 99 * 99 from rfl]
  exact (blk_eq oneS_pk bl2_eq (fun _ => Nat.mul_one _)).symm
theorem v2C_pk : v2C = pkN 9801 (fun i => i % 99) := by
  unfold v2C
  rw [show 9801 = 99 * 99 from rfl]
  exact (blk_eq v2S_pk bl1_eq (fun _ => Nat.one_mul _)).symm
theorem VC_pk (k : Nat) : VC k = pkN 9801 (vv k) :=
  match k with
  | 0 => (pkN_zero 9801).symm
  | 1 => v1C_pk
  | _ + 2 => v2C_pk
theorem VS_pk (k : Nat) : VS k = pkN 99 (vv k) :=
  match k with
  | 0 => (pkN_zero 99).symm
  | 1 => (pkN_zero 99).symm.trans (pkN_congr fun i hi => (Nat.div_eq_of_lt hi).symm)
  | _ + 2 => v2S_pk.symm.trans (pkN_congr fun i hi => (Nat.mod_eq_of_lt hi).symm)
/-- the check of a batch, great and small -/
noncomputable def chk (sd : List Nat) (a n : Nat) (ps : List BS) : Bool := chkL onC mkC VC (specM sd ps a n [⟨128, 0⟩]) (Nat.mul 8 (lM sd ps a n))
noncomputable def chkS (sd : List Nat) (a n : Nat) (ps : List BS) : Bool := chkL onS mkS VS (specM sd ps a n [⟨128, 0⟩]) (Nat.mul 8 (lM sd ps a n))
/-- both -/
noncomputable def also (x y : Bool) : Bool := Bool.rec (motive := fun _ => Bool) false y x
theorem also_eq (x y : Bool) : also x y = (x && y) := by cases x <;> rfl
theorem also_iff {x y : Bool} : also x y = true ↔ x = true ∧ y = true := by rw [also_eq]; simp
/-- the first number of the path from lo on, len of them, the others from 1 to 99 -/
noncomputable def allR (f : Nat → Bool) (lo len : Nat) : Bool := Nat.rec (motive := fun _ => Bool) true (fun j ih => also (f (Nat.add lo j)) ih) len
theorem allR_at {f : Nat → Bool} {lo : Nat} : ∀ {len : Nat}, allR f lo len = true → ∀ c, lo ≤ c → c < lo + len → f c = true
  | 0, _, c, h1, h2 => by omega
  | len + 1, h, c, h1, h2 => by
    obtain ⟨h3, h4⟩ := also_iff.1 (show also (f (lo + len)) (allR f lo len) = true from h)
    by_cases e : c = lo + len
    · rw [e]; exact h3
    · exact allR_at h4 c h1 (by omega)
noncomputable def chkR (sd : List Nat) (a n lo len : Nat) : Bool := allR (fun c => chk sd a n [⟨c, 0⟩, ⟨1, 1⟩, ⟨1, 2⟩]) lo len
theorem chkR_at {sd : List Nat} {a n lo len : Nat} (h : chkR sd a n lo len = true) (c : Nat) (h1 : lo ≤ c) (h2 : c < lo + len) : chk sd a n [⟨c, 0⟩, ⟨1, 1⟩, ⟨1, 2⟩] = true := by
  unfold chkR at h
  exact allR_at h c h1 h2
/-- the other great batches, and the small ones -/
noncomputable def chkO (sd : List Nat) (a n : Nat) : Bool :=
  also (chk sd a n [⟨1, 1⟩, ⟨0, 0⟩, ⟨1, 2⟩]) (also (chk sd a n [⟨1, 1⟩, ⟨1, 2⟩, ⟨0, 0⟩]) (also (chk sd a n [⟨1, 1⟩, ⟨1, 2⟩])
  (also (chkS sd a n [⟨1, 2⟩, ⟨0, 0⟩, ⟨0, 0⟩]) (also (chkS sd a n [⟨0, 0⟩, ⟨1, 2⟩, ⟨0, 0⟩]) (also (chkS sd a n [⟨0, 0⟩, ⟨0, 0⟩, ⟨1, 2⟩]) (also (chkS sd a n [⟨0, 0⟩, ⟨0, 0⟩, ⟨0, 0⟩])
  (also (chkS sd a n [⟨1, 2⟩, ⟨0, 0⟩]) (also (chkS sd a n [⟨0, 0⟩, ⟨1, 2⟩]) (also (chkS sd a n [⟨0, 0⟩, ⟨0, 0⟩]) (also (chkS sd a n [⟨1, 2⟩]) (also (chkS sd a n [⟨0, 0⟩]) (chkS sd a n []))))))))))))
/-- ALL BATCHES of a seed and a node -/
def OkB (sd : List Nat) (a n : Nat) : Prop := (∀ c, c < 100 → chk sd a n [⟨c, 0⟩, ⟨1, 1⟩, ⟨1, 2⟩] = true) ∧ chkO sd a n = true
/-- the batches one by one -/
def UpC (f : Nat → Bool) (m : Nat) : Prop := ∀ c, c < m → f c = true
theorem upC_zero (f : Nat → Bool) : UpC f 0 := fun c hc => absurd hc (Nat.not_lt_zero c)
theorem upC_step {f : Nat → Bool} {m : Nat} (h : UpC f m) (h1 : f m = true) : UpC f (m + 1) := fun c hc => by
  by_cases e : c = m
  · rw [e]; exact h1
  · exact h c (by omega)
theorem okB_up {sd : List Nat} {a n : Nat} (f : UpC (fun c => chk sd a n [⟨c, 0⟩, ⟨1, 1⟩, ⟨1, 2⟩]) 100) (h : chkO sd a n = true) : OkB sd a n := ⟨f, h⟩
theorem okB_of {sd : List Nat} {a n : Nat} (f : ∀ k, k < 25 → chkR sd a n (4 * k) 4 = true) (h : chkO sd a n = true) : OkB sd a n :=
  ⟨fun c hc => chkR_at (f (c / 4) (by omega)) c (by omega) (by omega), h⟩
section
variable {sd : List Nat} {a n : Nat} {s : ByteArray}
theorem great_word (hs : s.data.toList = sd.map byt) (hsb : ∀ x ∈ sd, x < 256) (h1 : sd.length < 20) (ha : a < 256) (hn : n < 256) (h4 : ∀ ps : List BS, ps.length ≤ 3 → lI ps a n < 256 ∧ lM sd ps a n ≤ 55) {ps : List BS} (hl : ps.length ≤ 3) (hp : ∀ p ∈ ps, p.c < 100 ∧ (p.k = 0 ∨ p.c = 1))
    (h : chk sd a n ps = true) : ∀ i, i < 9801 → wordN s (pathI ps vv i ++ [(a : Int), (n : Int)]) 0 < 281474976645120 := by
  refine batch_sound (nl := 9801) VC_pk (fun _ => rfl) hs hsb (by omega) (by omega) (h4 ps hl).1 (h4 ps hl).2 ha hn (fun i hi p hp' _ => ?_) ?_
  · obtain ⟨h5, h6⟩ := hp p hp'
    have hv : vv p.k i < 99 ∨ p.k = 0 := by
      match hk : p.k with
      | 0 => right; rfl
      | 1 => left; show i / 99 < 99; omega
      | k + 2 => left; show i % 99 < 99; omega
    unfold bsV
    rcases hv with hv | hv
    · omega
    · rw [hv]
      show p.c + 0 < 256
      omega
  · rw [one_pk, msk_pk]
    unfold chk at h
    exact h
theorem small_word (hs : s.data.toList = sd.map byt) (hsb : ∀ x ∈ sd, x < 256) (h1 : sd.length < 20) (ha : a < 256) (hn : n < 256) (h4 : ∀ ps : List BS, ps.length ≤ 3 → lI ps a n < 256 ∧ lM sd ps a n ≤ 55) {ps : List BS} (hl : ps.length ≤ 3) (hp : ∀ p ∈ ps, p.c < 100 ∧ (p.k = 0 ∨ p.c = 1))
    (h : chkS sd a n ps = true) : ∀ i, i < 99 → wordN s (pathI ps vv i ++ [(a : Int), (n : Int)]) 0 < 281474976645120 := by
  refine batch_sound (nl := 99) VS_pk (fun _ => rfl) hs hsb (by omega) (by omega) (h4 ps hl).1 (h4 ps hl).2 ha hn (fun i hi p hp' _ => ?_) ?_
  · obtain ⟨h5, h6⟩ := hp p hp'
    have hv : vv p.k i < 99 ∨ p.k = 0 := by
      match hk : p.k with
      | 0 => right; rfl
      | 1 => left; show i / 99 < 99; omega
      | k + 2 => left; show i % 99 < 99; omega
    unfold bsV
    rcases hv with hv | hv
    · omega
    · rw [hv]
      show p.c + 0 < 256
      omega
  · rw [oneS_pk, mskS_pk]
    unfold chkS at h
    exact h
theorem l1_le (x : Nat) : l1 x ≤ 2 := by
  cases x with
  | zero => exact Nat.le_succ 1
  | succ x => exact Nat.le_refl 2
theorem lPs_le : ∀ ps : List BS, lPs ps ≤ 2 * ps.length
  | [] => Nat.le_refl _
  | p :: ps => by
    have h1 := lPs_le ps
    have h2 := l1_le p.c
    show l1 p.c + lPs ps ≤ 2 * (ps.length + 1)
    omega
/-- EVERY WORD of a path of at most three numbers from 0 to 99 -/
theorem okB_word (hs : s.data.toList = sd.map byt) (hsb : ∀ x ∈ sd, x < 256) (h1 : sd.length < 20) (ha : a < 256) (hn : n < 256) (ok : OkB sd a n) (p : List Int) (hl : p.length ≤ 3) (hp : ∀ y ∈ p, 0 ≤ y ∧ y < 100) :
    wordN s (p ++ [(a : Int), (n : Int)]) 0 < 281474976645120 := by
  have h4 : ∀ ps : List BS, ps.length ≤ 3 → lI ps a n < 256 ∧ lM sd ps a n ≤ 55 := fun ps hps => by
    have e1 := l1_le (ps.length + 3)
    have e2 := lPs_le ps
    have e3 := l1_le a
    have e4 := l1_le n
    have e5 : lI ps a n = (l1 (ps.length + 3) + lPs ps) + ((l1 a + l1 n) + 1) := rfl
    have e6 := l1_le (lI ps a n)
    have e7 := l1_le sd.length
    have e8 : lM sd ps a n = ((1 + l1 sd.length) + sd.length) + (l1 (lI ps a n) + lI ps a n) := rfl
    omega
  obtain ⟨okc, oko⟩ := ok
  unfold chkO at oko
  simp only [also_iff] at oko
  obtain ⟨o1, o2, o3, o4, o5, o6, o7, o8, o9, o10, o11, o12, o13⟩ := oko
  have G := fun (ps : List BS) (hl : ps.length ≤ 3) hp h i hi => great_word (s := s) hs hsb h1 ha hn h4 (ps := ps) hl hp h i hi
  have S := fun (ps : List BS) (hl : ps.length ≤ 3) hp h i hi => small_word (s := s) hs hsb h1 ha hn h4 (ps := ps) hl hp h i hi
  -- the numbers as naturals
  have nat : ∀ y ∈ p, ∃ z : Nat, y = (z : Int) ∧ z < 100 := fun y hy => ⟨y.toNat, by have := hp y hy; omega, by have := hp y hy; omega⟩
  match p, hl, nat with
  | [], _, _ =>
    exact S [] (by simp) (by simp) o13 0 (by omega)
  | [X], _, nat =>
    obtain ⟨x, rfl, hx⟩ := nat X (by simp)
    by_cases x0 : x = 0
    · subst x0
      exact S [⟨0, 0⟩] (by simp) (by simp) o12 0 (by omega)
    · have := S [⟨1, 2⟩] (by simp) (by simp) o11 (x - 1) (by omega)
      have e : pathI [⟨1, 2⟩] vv (x - 1) = [(x : Int)] := by simp [pathI, bsV, vv]; omega
      rw [e] at this
      exact this
  | [X, Y], _, nat =>
    obtain ⟨x, rfl, hx⟩ := nat X (by simp)
    obtain ⟨y, rfl, hy⟩ := nat Y (by simp)
    by_cases x0 : x = 0
    · subst x0
      by_cases y0 : y = 0
      · subst y0
        exact S [⟨0, 0⟩, ⟨0, 0⟩] (by simp) (by simp) o10 0 (by omega)
      · have := S [⟨0, 0⟩, ⟨1, 2⟩] (by simp) (by simp) o9 (y - 1) (by omega)
        have e : pathI [⟨0, 0⟩, ⟨1, 2⟩] vv (y - 1) = [((0 : Nat) : Int), (y : Int)] := by simp [pathI, bsV, vv]; omega
        rw [e] at this
        exact this
    · by_cases y0 : y = 0
      · subst y0
        have := S [⟨1, 2⟩, ⟨0, 0⟩] (by simp) (by simp) o8 (x - 1) (by omega)
        have e : pathI [⟨1, 2⟩, ⟨0, 0⟩] vv (x - 1) = [(x : Int), ((0 : Nat) : Int)] := by simp [pathI, bsV, vv]; omega
        rw [e] at this
        exact this
      · have := G [⟨1, 1⟩, ⟨1, 2⟩] (by simp) (by simp) o3 ((x - 1) * 99 + (y - 1)) (by omega)
        have e : pathI [⟨1, 1⟩, ⟨1, 2⟩] vv ((x - 1) * 99 + (y - 1)) = [(x : Int), (y : Int)] := by
          have e1 : ((x - 1) * 99 + (y - 1)) / 99 = x - 1 := by omega
          have e2 : ((x - 1) * 99 + (y - 1)) % 99 = y - 1 := by omega
          simp [pathI, bsV, vv, e1, e2]
          omega
        rw [e] at this
        exact this
  | [X, Y, Z], _, nat =>
    obtain ⟨x, rfl, hx⟩ := nat X (by simp)
    obtain ⟨y, rfl, hy⟩ := nat Y (by simp)
    obtain ⟨z, rfl, hz⟩ := nat Z (by simp)
    by_cases y0 : y = 0
    · subst y0
      by_cases z0 : z = 0
      · subst z0
        by_cases x0 : x = 0
        · subst x0
          exact S [⟨0, 0⟩, ⟨0, 0⟩, ⟨0, 0⟩] (by simp) (by simp) o7 0 (by omega)
        · have := S [⟨1, 2⟩, ⟨0, 0⟩, ⟨0, 0⟩] (by simp) (by simp) o4 (x - 1) (by omega)
          have e : pathI [⟨1, 2⟩, ⟨0, 0⟩, ⟨0, 0⟩] vv (x - 1) = [(x : Int), ((0 : Nat) : Int), ((0 : Nat) : Int)] := by simp [pathI, bsV, vv]; omega
          rw [e] at this
          exact this
      · by_cases x0 : x = 0
        · subst x0
          have := S [⟨0, 0⟩, ⟨0, 0⟩, ⟨1, 2⟩] (by simp) (by simp) o6 (z - 1) (by omega)
          have e : pathI [⟨0, 0⟩, ⟨0, 0⟩, ⟨1, 2⟩] vv (z - 1) = [((0 : Nat) : Int), ((0 : Nat) : Int), (z : Int)] := by simp [pathI, bsV, vv]; omega
          rw [e] at this
          exact this
        · have := G [⟨1, 1⟩, ⟨0, 0⟩, ⟨1, 2⟩] (by simp) (by simp) o1 ((x - 1) * 99 + (z - 1)) (by omega)
          have e : pathI [⟨1, 1⟩, ⟨0, 0⟩, ⟨1, 2⟩] vv ((x - 1) * 99 + (z - 1)) = [(x : Int), ((0 : Nat) : Int), (z : Int)] := by
            have e1 : ((x - 1) * 99 + (z - 1)) / 99 = x - 1 := by omega
            have e2 : ((x - 1) * 99 + (z - 1)) % 99 = z - 1 := by omega
            simp [pathI, bsV, vv, e1, e2]
            omega
          rw [e] at this
          exact this
    · by_cases z0 : z = 0
      · subst z0
        by_cases x0 : x = 0
        · subst x0
          have := S [⟨0, 0⟩, ⟨1, 2⟩, ⟨0, 0⟩] (by simp) (by simp) o5 (y - 1) (by omega)
          have e : pathI [⟨0, 0⟩, ⟨1, 2⟩, ⟨0, 0⟩] vv (y - 1) = [((0 : Nat) : Int), (y : Int), ((0 : Nat) : Int)] := by simp [pathI, bsV, vv]; omega
          rw [e] at this
          exact this
        · have := G [⟨1, 1⟩, ⟨1, 2⟩, ⟨0, 0⟩] (by simp) (by simp) o2 ((x - 1) * 99 + (y - 1)) (by omega)
          have e : pathI [⟨1, 1⟩, ⟨1, 2⟩, ⟨0, 0⟩] vv ((x - 1) * 99 + (y - 1)) = [(x : Int), (y : Int), ((0 : Nat) : Int)] := by
            have e1 : ((x - 1) * 99 + (y - 1)) / 99 = x - 1 := by omega
            have e2 : ((x - 1) * 99 + (y - 1)) % 99 = y - 1 := by omega
            simp [pathI, bsV, vv, e1, e2]
            omega
          rw [e] at this
          exact this
      · have := G [⟨x, 0⟩, ⟨1, 1⟩, ⟨1, 2⟩] (by simp) (by simp [hx]) (okc x hx) ((y - 1) * 99 + (z - 1)) (by omega)
        have e : pathI [⟨x, 0⟩, ⟨1, 1⟩, ⟨1, 2⟩] vv ((y - 1) * 99 + (z - 1)) = [(x : Int), (y : Int), (z : Int)] := by
          have e1 : ((y - 1) * 99 + (z - 1)) / 99 = y - 1 := by omega
          have e2 : ((y - 1) * 99 + (z - 1)) % 99 = z - 1 := by omega
          by_cases x0 : x = 0
          · subst x0
            simp [pathI, bsV, vv, e1, e2]
            omega
          · simp [pathI, bsV, vv, e1, e2, x0]
            omega
        rw [e] at this
        exact this
  | _ :: _ :: _ :: _ :: _, hl, _ => simp at hl
end
end Go.Proofs.YtkchalnohkfhbaaDoor
/- The rounds of SHA-256 on lanes, with all lanes' results. Plain; nothing of the program stands here. -/
namespace Go.Proofs.YtkchalnohkfhbaaDoor

/-- the rounds on lanes as vRounds; the result is the lanes of a -/
noncomputable abbrev vA (one M : Nat) (K : List Nat) : Nat → Nat → Nat → Nat → Nat → Nat → Nat → Nat → Nat → Nat → Nat → Nat → Nat → Nat → Nat → Nat → Nat → Nat → Nat → Nat → Nat → Nat → Nat → Nat → Nat → Nat :=
  List.rec (motive := fun _ => Nat → Nat → Nat → Nat → Nat → Nat → Nat → Nat → Nat → Nat → Nat → Nat → Nat → Nat → Nat → Nat → Nat → Nat → Nat → Nat → Nat → Nat → Nat → Nat → Nat → Nat)
    (fun a b c d e f g h x w0 w1 w2 w3 w4 w5 w6 w7 w8 w9 w10 w11 w12 w13 w14 w15 => a)
    (fun k ks ih a b c d e f g h x w0 w1 w2 w3 w4 w5 w6 w7 w8 w9 w10 w11 w12 w13 w14 w15 => (fun t1 => ih (Nat.land (Nat.add t1 (Nat.add (Nat.land (Nat.xor (Nat.xor (Nat.shiftRight (Nat.mul a 4294967297) 2) (Nat.shiftRight (Nat.mul a 4294967297) 13)) (Nat.shiftRight (Nat.mul a 4294967297) 22)) M) (Nat.xor b (Nat.land x (Nat.xor a b))))) M) a b c (Nat.land (Nat.add d t1) M) e f g (Nat.xor a b) w1 w2 w3 w4 w5 w6 w7 w8 w9 w10 w11 w12 w13 w14 w15 (Nat.land (Nat.add (Nat.add w0 (Nat.land (Nat.xor (Nat.xor (Nat.shiftRight (Nat.mul w1 4294967297) 7) (Nat.shiftRight (Nat.mul w1 4294967297) 18)) (Nat.shiftRight w1 3)) M)) (Nat.add w9 (Nat.land (Nat.xor (Nat.xor (Nat.shiftRight (Nat.mul w14 4294967297) 17) (Nat.shiftRight (Nat.mul w14 4294967297) 19)) (Nat.shiftRight w14 10)) M))) M)) (Nat.add (Nat.add (Nat.add h (Nat.land (Nat.xor (Nat.xor (Nat.shiftRight (Nat.mul e 4294967297) 6) (Nat.shiftRight (Nat.mul e 4294967297) 11)) (Nat.shiftRight (Nat.mul e 4294967297) 25)) M)) (Nat.xor g (Nat.land e (Nat.xor f g)))) (Nat.add w0 (Nat.mul one k)))) K
theorem vA_cons (one M k : Nat) (ks : List Nat) (a b c d e f g h x w0 w1 w2 w3 w4 w5 w6 w7 w8 w9 w10 w11 w12 w13 w14 w15 : Nat) : vA one M (k :: ks) a b c d e f g h x w0 w1 w2 w3 w4 w5 w6 w7 w8 w9 w10 w11 w12 w13 w14 w15 =
    vA one M ks ((((((h + x3 M (e * 4294967297) 6 11 (e * 4294967297) 25) + (g ^^^ (e &&& (f ^^^ g)))) + (w0 + one * k)) + (x3 M (a * 4294967297) 2 13 (a * 4294967297) 22 + (b ^^^ (x &&& (a ^^^ b))))) &&& M)) a b c
      ((d + (((h + x3 M (e * 4294967297) 6 11 (e * 4294967297) 25) + (g ^^^ (e &&& (f ^^^ g)))) + (w0 + one * k))) &&& M) e f g (a ^^^ b) w1 w2 w3 w4 w5 w6 w7 w8 w9 w10 w11 w12 w13 w14 w15
      (((w0 + x3 M (w1 * 4294967297) 7 18 w1 3) + (w9 + x3 M (w14 * 4294967297) 17 19 w14 10)) &&& M) := rfl
section
variable {n : Nat} {Wf : Nat → Nat → UInt32}
theorem vA_sound (hW : ∀ i t, Wf i (t + 16) = aw (aw (aw (Wf i t) (sig0 (Wf i (t + 1)))) (Wf i (t + 9))) (sig1 (Wf i (t + 14)))) : ∀ (ks : List UInt32) (st : Nat → St) (t : Nat),
    vA (pkN n fun _ => 1) (pkN n fun _ => 4294967295) (ks.map UInt32.toNat) (pk n fun i => (st i).a) (pk n fun i => (st i).b) (pk n fun i => (st i).c) (pk n fun i => (st i).d) (pk n fun i => (st i).e) (pk n fun i => (st i).f) (pk n fun i => (st i).g) (pk n fun i => (st i).h) (pk n fun i => (st i).b ^^^ (st i).c)
      (pk n fun i => Wf i (t + 0)) (pk n fun i => Wf i (t + 1)) (pk n fun i => Wf i (t + 2)) (pk n fun i => Wf i (t + 3)) (pk n fun i => Wf i (t + 4)) (pk n fun i => Wf i (t + 5)) (pk n fun i => Wf i (t + 6)) (pk n fun i => Wf i (t + 7)) (pk n fun i => Wf i (t + 8)) (pk n fun i => Wf i (t + 9)) (pk n fun i => Wf i (t + 10)) (pk n fun i => Wf i (t + 11)) (pk n fun i => Wf i (t + 12)) (pk n fun i => Wf i (t + 13)) (pk n fun i => Wf i (t + 14)) (pk n fun i => Wf i (t + 15)) = pk n fun i => (runL (st i) (Wf i) ks t).a
  | [], st, t => rfl
  | k :: ks, st, t => by
    rw [List.map_cons, vA_cons]
    have ih := vA_sound hW ks (fun i => (st i).rnd k (Wf i t)) (t + 1)
    refine Eq.trans ?_ ih
    have hm : ∀ x : Nat, x % 4294967296 < 2 ^ 64 := fun x => Nat.lt_trans (Nat.mod_lt _ (by decide)) (by decide)
    -- the parts
    have pS1 := x3_rot (n := n) (fun i => (st i).e) 6 11 25 (by decide) (by decide) (by decide)
    have pS0 := x3_rot (n := n) (fun i => (st i).a) 2 13 22 (by decide) (by decide) (by decide)
    have ps0 := x3_sig (n := n) (fun i => Wf i (t + 1)) 7 18 3 (by decide) (by decide) (by decide)
    have ps1 := x3_sig (n := n) (fun i => Wf i (t + 14)) 17 19 10 (by decide) (by decide) (by decide)
    have pch : (pk n fun i => (st i).g) ^^^ ((pk n fun i => (st i).e) &&& ((pk n fun i => (st i).f) ^^^ (pk n fun i => (st i).g))) = pk n fun i => chW (st i).e (st i).f (st i).g := by
      rw [pk_xor, pk_and, pk_xor]
      exact pkN_congr fun i _ => by dsimp only; rw [ch_lane]
    have pmj : (pk n fun i => (st i).b) ^^^ ((pk n fun i => (st i).b ^^^ (st i).c) &&& ((pk n fun i => (st i).a) ^^^ (pk n fun i => (st i).b))) = pk n fun i => majW (st i).a (st i).b (st i).c := by
      rw [pk_xor, pk_and, pk_xor]
      exact pkN_congr fun i _ => by dsimp only; rw [maj_lane]
    have pk1 : (pkN n fun _ => 1) * k.toNat = pkN n fun _ => k.toNat := by rw [pkN_mul]; exact pkN_congr fun _ _ => Nat.one_mul _
    rw [pS1, pS0, ps0, ps1, pch, pmj, pk1, pk_xor]
    have e0 : ∀ j : Nat, (pk n fun i => Wf i (t + 1 + j)) = pk n fun i => Wf i (t + (j + 1)) := fun j => by
      unfold pk
      exact pkN_congr fun i _ => by rw [show t + 1 + j = t + (j + 1) by omega]
    simp only [e0, Nat.reduceAdd]
    have ea : ((pk n fun i => ((st i).rnd k (Wf i t)).a)) = (pk n (fun i => (st i).h) + pk n (fun i => mixU (st i).e 6 11 25) + pk n (fun i => chW (st i).e (st i).f (st i).g) + (pk n (fun i => Wf i (t + 0)) + pkN n fun _ => k.toNat) + (pk n (fun i => mixU (st i).a 2 13 22) + pk n (fun i => majW (st i).a (st i).b (st i).c))) &&& (pkN n fun _ => 4294967295) := by
      unfold pk
      rw [pkN_add, pkN_add, pkN_add, pkN_add, pkN_add, pkN_add, pkN_mask (fun i _ => by
        have := (st i).h.toNat_lt; have := (mixU (st i).e 6 11 25).toNat_lt; have := (chW (st i).e (st i).f (st i).g).toNat_lt; have := (Wf i (t + 0)).toNat_lt; have := k.toNat_lt; have := (mixU (st i).a 2 13 22).toNat_lt; have := (majW (st i).a (st i).b (st i).c).toNat_lt
        dsimp only
        omega)]
      refine pkN_congr fun i _ => ?_
      simp only [St.rnd, rndX, rndY, aw, UInt32.toNat_add, Nat.add_zero]
      omega
    have ee : ((pk n fun i => ((st i).rnd k (Wf i t)).e)) = (pk n (fun i => (st i).d) + (pk n (fun i => (st i).h) + pk n (fun i => mixU (st i).e 6 11 25) + pk n (fun i => chW (st i).e (st i).f (st i).g) + (pk n (fun i => Wf i (t + 0)) + pkN n fun _ => k.toNat))) &&& (pkN n fun _ => 4294967295) := by
      unfold pk
      rw [pkN_add, pkN_add, pkN_add, pkN_add, pkN_add, pkN_mask (fun i _ => by
        have := (st i).h.toNat_lt; have := (mixU (st i).e 6 11 25).toNat_lt; have := (chW (st i).e (st i).f (st i).g).toNat_lt; have := (Wf i (t + 0)).toNat_lt; have := k.toNat_lt; have := (st i).d.toNat_lt
        dsimp only
        omega)]
      refine pkN_congr fun i _ => ?_
      simp only [St.rnd, rndX, rndY, aw, UInt32.toNat_add, Nat.add_zero]
      omega
    have ew : (pk n fun i => Wf i (t + 16)) = (pk n (fun i => Wf i (t + 0)) + pk n (fun i => xw (xw (rotr (Wf i (t + 1)) 7) (rotr (Wf i (t + 1)) 18)) (sw (Wf i (t + 1)) 3)) + (pk n (fun i => Wf i (t + 9)) + pk n (fun i => xw (xw (rotr (Wf i (t + 14)) 17) (rotr (Wf i (t + 14)) 19)) (sw (Wf i (t + 14)) 10)))) &&& (pkN n fun _ => 4294967295) := by
      unfold pk
      rw [pkN_add, pkN_add, pkN_add, pkN_mask (fun i _ => by
        have := (Wf i (t + 0)).toNat_lt; have := (xw (xw (rotr (Wf i (t + 1)) 7) (rotr (Wf i (t + 1)) 18)) (sw (Wf i (t + 1)) 3)).toNat_lt; have := (Wf i (t + 9)).toNat_lt; have := (xw (xw (rotr (Wf i (t + 14)) 17) (rotr (Wf i (t + 14)) 19)) (sw (Wf i (t + 14)) 10)).toNat_lt
        dsimp only
        omega)]
      refine pkN_congr fun i _ => ?_
      dsimp only
      rw [hW]
      simp only [sig0, sig1, aw, UInt32.toNat_add, Nat.add_zero]
      omega
    rw [ea, ee, ew]
    rfl
end
end Go.Proofs.YtkchalnohkfhbaaDoor
/- Hashes of lanes; the messages of the draws of great splits; the check of two tries of a batch. Plain; nothing of the program stands here but the specification of its words. -/
namespace Go.Proofs.YtkchalnohkfhbaaDoor

/-- the first words of the hashes -/
noncomputable def hashA (one M : Nat) (V : Nat → Nat) (L : List BS) (bits : Nat) : Nat :=
  Nat.land (Nat.add (vA one M KN (Nat.mul one 1779033703) (Nat.mul one 3144134277) (Nat.mul one 1013904242) (Nat.mul one 2773480762) (Nat.mul one 1359893119) (Nat.mul one 2600822924) (Nat.mul one 528734635) (Nat.mul one 1541459225) (Nat.mul one 2265538039)
    (wd one V L) (wd one V (dr4 L)) (wd one V (dr4 (dr4 L))) (wd one V (dr4 (dr4 (dr4 L)))) (wd one V (dr4 (dr4 (dr4 (dr4 L))))) (wd one V (dr4 (dr4 (dr4 (dr4 (dr4 L)))))) (wd one V (dr4 (dr4 (dr4 (dr4 (dr4 (dr4 L))))))) (wd one V (dr4 (dr4 (dr4 (dr4 (dr4 (dr4 (dr4 L)))))))) (wd one V (dr4 (dr4 (dr4 (dr4 (dr4 (dr4 (dr4 (dr4 L))))))))) (wd one V (dr4 (dr4 (dr4 (dr4 (dr4 (dr4 (dr4 (dr4 (dr4 L)))))))))) (wd one V (dr4 (dr4 (dr4 (dr4 (dr4 (dr4 (dr4 (dr4 (dr4 (dr4 L))))))))))) (wd one V (dr4 (dr4 (dr4 (dr4 (dr4 (dr4 (dr4 (dr4 (dr4 (dr4 (dr4 L)))))))))))) (wd one V (dr4 (dr4 (dr4 (dr4 (dr4 (dr4 (dr4 (dr4 (dr4 (dr4 (dr4 (dr4 L))))))))))))) (wd one V (dr4 (dr4 (dr4 (dr4 (dr4 (dr4 (dr4 (dr4 (dr4 (dr4 (dr4 (dr4 (dr4 L)))))))))))))) (wd one V (dr4 (dr4 (dr4 (dr4 (dr4 (dr4 (dr4 (dr4 (dr4 (dr4 (dr4 (dr4 (dr4 (dr4 L))))))))))))))) (Nat.mul one bits)) (Nat.mul one 1779033703)) M
set_option maxHeartbeats 4000000 in
theorem hashA_eq {n : Nat} {v : Nat → Nat → Nat} {V : Nat → Nat} (hV : ∀ k, V k = pkN n (v k)) {L : List BS} {len : Nat}
    (b : Nat → List UInt8) (hb : ∀ i, i < n → (∀ j, j < 15 → (wF (b i) j).toNat = wdN v L j i) ∧ (wF (b i) 15).toNat = 8 * len) : hashA (pkN n fun _ => 1) (pkN n fun _ => 4294967295) V L (8 * len) = pkN n fun i => (comp S0 (b i)).a.toNat := by
  have key := vA_sound (n := n) (Wf := fun i => wF (b i)) (fun i t => wF_rec (b i) t) KS (fun _ => S0) 0
  have hk : ∀ (x : UInt32), (pk n fun _ => x) = (pkN n fun _ => 1) * x.toNat := fun x => by
    unfold pk
    rw [pkN_mul]
    exact pkN_congr fun _ _ => (Nat.one_mul _).symm
  have hw : ∀ j, j < 15 → (pk n fun i => wF (b i) (0 + j)) = pkN n (wdN v L j) := fun j hj => by
    unfold pk
    refine pkN_congr fun i hi => ?_
    dsimp only
    rw [Nat.zero_add]
    exact (hb i hi).1 j hj
  have hw15 : (pk n fun i => wF (b i) (0 + 15)) = (pkN n fun _ => 1) * (8 * len) := by
    unfold pk
    rw [pkN_mul]
    refine pkN_congr fun i hi => ?_
    dsimp only
    rw [Nat.zero_add, (hb i hi).2, Nat.one_mul]
  have hd : ∀ (L' : List BS) (j : Nat), (∀ m i, wdN v L' m i = wdN v L (m + j) i) → wd (pkN n fun _ => 1) V L' = pkN n (wdN v L j) := fun L' j e => by
    rw [wd_eq hV]
    exact pkN_congr fun i _ => by rw [e, Nat.zero_add]
  have d0 : ∀ m i, wdN v L m i = wdN v L (m + 0) i := fun m i => rfl
  have d1 : ∀ m i, wdN v (dr4 L) m i = wdN v L (m + 1) i := fun m i => by rw [wd_dr, d0, show m + 1 + 0 = m + 1 by omega]
  have d2 : ∀ m i, wdN v (dr4 (dr4 L)) m i = wdN v L (m + 2) i := fun m i => by rw [wd_dr, d1, show m + 1 + 1 = m + 2 by omega]
  have d3 : ∀ m i, wdN v (dr4 (dr4 (dr4 L))) m i = wdN v L (m + 3) i := fun m i => by rw [wd_dr, d2, show m + 1 + 2 = m + 3 by omega]
  have d4 : ∀ m i, wdN v (dr4 (dr4 (dr4 (dr4 L)))) m i = wdN v L (m + 4) i := fun m i => by rw [wd_dr, d3, show m + 1 + 3 = m + 4 by omega]
  have d5 : ∀ m i, wdN v (dr4 (dr4 (dr4 (dr4 (dr4 L))))) m i = wdN v L (m + 5) i := fun m i => by rw [wd_dr, d4, show m + 1 + 4 = m + 5 by omega]
  have d6 : ∀ m i, wdN v (dr4 (dr4 (dr4 (dr4 (dr4 (dr4 L)))))) m i = wdN v L (m + 6) i := fun m i => by rw [wd_dr, d5, show m + 1 + 5 = m + 6 by omega]
  have d7 : ∀ m i, wdN v (dr4 (dr4 (dr4 (dr4 (dr4 (dr4 (dr4 L))))))) m i = wdN v L (m + 7) i := fun m i => by rw [wd_dr, d6, show m + 1 + 6 = m + 7 by omega]
  have d8 : ∀ m i, wdN v (dr4 (dr4 (dr4 (dr4 (dr4 (dr4 (dr4 (dr4 L)))))))) m i = wdN v L (m + 8) i := fun m i => by rw [wd_dr, d7, show m + 1 + 7 = m + 8 by omega]
  have d9 : ∀ m i, wdN v (dr4 (dr4 (dr4 (dr4 (dr4 (dr4 (dr4 (dr4 (dr4 L))))))))) m i = wdN v L (m + 9) i := fun m i => by rw [wd_dr, d8, show m + 1 + 8 = m + 9 by omega]
  have d10 : ∀ m i, wdN v (dr4 (dr4 (dr4 (dr4 (dr4 (dr4 (dr4 (dr4 (dr4 (dr4 L)))))))))) m i = wdN v L (m + 10) i := fun m i => by rw [wd_dr, d9, show m + 1 + 9 = m + 10 by omega]
  have d11 : ∀ m i, wdN v (dr4 (dr4 (dr4 (dr4 (dr4 (dr4 (dr4 (dr4 (dr4 (dr4 (dr4 L))))))))))) m i = wdN v L (m + 11) i := fun m i => by rw [wd_dr, d10, show m + 1 + 10 = m + 11 by omega]
  have d12 : ∀ m i, wdN v (dr4 (dr4 (dr4 (dr4 (dr4 (dr4 (dr4 (dr4 (dr4 (dr4 (dr4 (dr4 L)))))))))))) m i = wdN v L (m + 12) i := fun m i => by rw [wd_dr, d11, show m + 1 + 11 = m + 12 by omega]
  have d13 : ∀ m i, wdN v (dr4 (dr4 (dr4 (dr4 (dr4 (dr4 (dr4 (dr4 (dr4 (dr4 (dr4 (dr4 (dr4 L))))))))))))) m i = wdN v L (m + 13) i := fun m i => by rw [wd_dr, d12, show m + 1 + 12 = m + 13 by omega]
  have d14 : ∀ m i, wdN v (dr4 (dr4 (dr4 (dr4 (dr4 (dr4 (dr4 (dr4 (dr4 (dr4 (dr4 (dr4 (dr4 (dr4 L)))))))))))))) m i = wdN v L (m + 14) i := fun m i => by rw [wd_dr, d13, show m + 1 + 13 = m + 14 by omega]
  rw [← KN_eq] at key
  rw [hw 0 (by decide), hw 1 (by decide), hw 2 (by decide), hw 3 (by decide), hw 4 (by decide), hw 5 (by decide), hw 6 (by decide), hw 7 (by decide), hw 8 (by decide), hw 9 (by decide), hw 10 (by decide), hw 11 (by decide), hw 12 (by decide), hw 13 (by decide), hw 14 (by decide), hw15] at key
  rw [hk S0.a, hk S0.b, hk S0.c, hk S0.d, hk S0.e, hk S0.f, hk S0.g, hk S0.h, hk (S0.b ^^^ S0.c)] at key
  unfold hashA
  rw [hd _ 0 d0, hd _ 1 d1, hd _ 2 d2, hd _ 3 d3, hd _ 4 d4, hd _ 5 d5, hd _ 6 d6, hd _ 7 d7, hd _ 8 d8, hd _ 9 d9, hd _ 10 d10, hd _ 11 d11, hd _ 12 d12, hd _ 13 d13, hd _ 14 d14]
  refine Eq.trans (congrArg (fun x => Nat.land (Nat.add x (Nat.mul (pkN n fun _ => 1) 1779033703)) (pkN n fun _ => 4294967295)) key) ?_
  show (pk n _ + (pkN n fun _ => 1) * 1779033703) &&& _ = _
  unfold pk
  rw [pkN_mul, pkN_add, pkN_mask (fun i _ => by
    have := (runL S0 (wF (b i)) KS 0).a.toNat_lt
    dsimp only
    omega)]
  refine pkN_congr fun i _ => ?_
  dsimp only
  rw [comp_a]
  unfold aw
  rw [UInt32.toNat_add, show S0.a.toNat = 1779033703 from rfl]
  omega
theorem encInt_two {x : Nat} (h0 : 256 ≤ x) (h1 : x < 65536) : encInt (x : Int) = [byt 130, byt (x / 256), byt (x % 256)] := by
  have hm : mag (x : Int) = x := by unfold mag; rw [if_neg (by omega)]; exact Int.toNat_natCast x
  have hn : nd x = 2 := nd_of (by omega) (by omega) (fun _ => by simpa using h0)
  have hneg : ¬ (x : Int) < 0 := by omega
  unfold encInt
  rw [hm, hn]
  have e : List.range 2 = [0, 1] := rfl
  unfold headB digsTo flp dig
  rw [e, hm]
  simp only [if_neg hneg, List.map_cons, List.map_nil, Nat.reduceAdd, Nat.reduceSub, Nat.sub_self, Nat.pow_one, Nat.pow_zero, Nat.div_one, Nat.sub_zero]
  rw [show x / 256 % 256 = x / 256 by omega]
/-- classes of numbers by their encoding -/
def InC (c x : Nat) : Prop := (c = 0 ∧ x = 0) ∨ (c = 1 ∧ 1 ≤ x ∧ x < 256) ∨ (c = 2 ∧ 256 ≤ x ∧ x < 65536)
noncomputable abbrev eC (k c : Nat) (r : List BS) : List BS := Nat.rec (motive := fun _ => List BS) (⟨128, 0⟩ :: r) (fun c' _ => Nat.rec (motive := fun _ => List BS) (⟨129, 0⟩ :: ⟨0, k⟩ :: r) (fun _ _ => ⟨130, 0⟩ :: ⟨0, Nat.succ k⟩ :: ⟨0, k⟩ :: r) c') c
noncomputable abbrev lC (ca cn ct : Nat) : Nat := Nat.add (Nat.add ca cn) (Nat.add ct 5)
/-- the message of a try (t = 0 or 1) -/
noncomputable abbrev specG (ca cn t : Nat) (r : List BS) : List BS :=
  ⟨8, 0⟩ :: ⟨129, 0⟩ :: ⟨1, 0⟩ :: ⟨103, 0⟩ :: ⟨129, 0⟩ :: ⟨lC ca cn t, 0⟩ :: ⟨129, 0⟩ :: ⟨3, 0⟩ :: eC 1 ca (eC 3 cn (e1 t r))
section
variable {v : Nat → Nat → Nat} {i : Nat} (h0 : v 0 i = 0)
include h0
theorem eC_map {k c x : Nat} (h : InC c x) (hl : v k i = x % 256) (hh : v (k + 1) i = x / 256) (r : List BS) : (eC k c r).map (bsB v i) = encInt (x : Int) ++ r.map (bsB v i) ∧ (encInt (x : Int)).length = c + 1 := by
  have b : ∀ k, bsB v i ⟨0, k⟩ = byt (v k i) := fun k => by unfold bsB bsV; rw [Nat.zero_add]
  rcases h with ⟨rfl, rfl⟩ | ⟨rfl, h1, h2⟩ | ⟨rfl, h1, h2⟩
  · have e : encInt ((0 : Nat) : Int) = [byt 128] := by have := encInt_small (x := 0) (by decide); simpa using this
    rw [e]
    refine ⟨?_, rfl⟩
    show bsB v i ⟨128, 0⟩ :: _ = _
    rw [bs_const h0]
    rfl
  · rw [encInt_small h2, if_neg (by omega)]
    refine ⟨?_, rfl⟩
    show bsB v i ⟨129, 0⟩ :: bsB v i ⟨0, k⟩ :: _ = _
    rw [bs_const h0, b, hl, Nat.mod_eq_of_lt h2]
    rfl
  · rw [encInt_two h1 h2]
    refine ⟨?_, rfl⟩
    show bsB v i ⟨130, 0⟩ :: bsB v i ⟨0, k + 1⟩ :: bsB v i ⟨0, k⟩ :: _ = _
    rw [bs_const h0, b, b, hl, hh]
    rfl
theorem specG_map {ca cn a n t : Nat} {s : ByteArray} (hs : s.data.toList = [byt 103]) (ha : InC ca a) (hn : InC cn n) (ht : t < 2) (l1' : v 1 i = a % 256) (l2 : v 2 i = a / 256) (l3 : v 3 i = n % 256) (l4 : v 4 i = n / 256) (r : List BS) :
    (specG ca cn t r).map (bsB v i) = ofM 8 [s, txt (encInts ([(a : Int), (n : Int)] ++ [(t : Int)]))] ++ r.map (bsB v i) ∧ (ofM 8 [s, txt (encInts ([(a : Int), (n : Int)] ++ [(t : Int)]))]).length = lC ca cn t + 6 := by
  obtain ⟨i1, i2⟩ := eC_map h0 ha l1' l2 (eC 3 cn (e1 t r))
  obtain ⟨j1, j2⟩ := eC_map h0 hn l3 l4 (e1 t r)
  have t1 := e1_map h0 (show t < 256 by omega) r
  have t2 : (encInt (t : Int)).length = t + 1 := by
    rw [encInt_small (by omega)]
    obtain rfl | rfl : t = 0 ∨ t = 1 := by omega
    · rfl
    · rfl
  have e3 : encInt ((3 : Nat) : Int) = [byt 129, byt 3] := by rw [encInt_small (by decide), if_neg (by decide)]
  have hI : encInts ([(a : Int), (n : Int)] ++ [(t : Int)]) = [byt 129, byt 3] ++ (encInt (a : Int) ++ (encInt (n : Int) ++ encInt (t : Int))) := by
    unfold encInts
    rw [show ([(a : Int), (n : Int)] ++ [(t : Int)]).length = 3 from rfl, e3]
    simp [cat]
  have hIl : (encInts ([(a : Int), (n : Int)] ++ [(t : Int)])).length = lC ca cn t := by
    rw [hI]
    simp only [List.length_append, List.length_cons, List.length_nil, i2, j2, t2]
    show _ = (ca + cn) + (t + 5)
    omega
  have hc : ca ≤ 2 ∧ cn ≤ 2 := by
    constructor
    · rcases ha with h | h | h <;> omega
    · rcases hn with h | h | h <;> omega
  have hll : lC ca cn t < 256 ∧ lC ca cn t ≠ 0 := by
    show (ca + cn) + (t + 5) < 256 ∧ (ca + cn) + (t + 5) ≠ 0
    omega
  have el : encInt ((lC ca cn t : Nat) : Int) = [byt 129, byt (lC ca cn t)] := by rw [encInt_small hll.1, if_neg hll.2]
  have e1' : encInt ((1 : Nat) : Int) = [byt 129, byt 1] := by rw [encInt_small (by decide), if_neg (by decide)]
  have htx : (txt (encInts ([(a : Int), (n : Int)] ++ [(t : Int)]))).data.toList = encInts ([(a : Int), (n : Int)] ++ [(t : Int)]) := by unfold txt; simp
  have hM : ofM 8 [s, txt (encInts ([(a : Int), (n : Int)] ++ [(t : Int)]))] = byt 8 :: ([byt 129, byt 1] ++ ([byt 103] ++ ([byt 129, byt (lC ca cn t)] ++ encInts ([(a : Int), (n : Int)] ++ [(t : Int)])))) := by
    unfold ofM catS
    simp only [List.flatMap_cons, List.flatMap_nil, List.append_nil]
    unfold encBytes
    rw [htx, hs, hIl, el]
    show _ :: ((encInt ((1 : Nat) : Int) ++ [byt 103]) ++ _) = _
    rw [e1', List.append_assoc]
    rfl
  constructor
  · rw [hM, hI]
    show bsB v i ⟨8, 0⟩ :: bsB v i ⟨129, 0⟩ :: bsB v i ⟨1, 0⟩ :: bsB v i ⟨103, 0⟩ :: bsB v i ⟨129, 0⟩ :: bsB v i ⟨lC ca cn t, 0⟩ :: bsB v i ⟨129, 0⟩ :: bsB v i ⟨3, 0⟩ :: (eC 1 ca (eC 3 cn (e1 t r))).map (bsB v i) = _
    rw [i1, j1, t1]
    simp only [bs_const h0]
    simp
  · rw [hM]
    simp only [List.length_cons, List.length_append, List.length_nil, hIl]
    omega
end
end Go.Proofs.YtkchalnohkfhbaaDoor
/- The check of two tries of a batch of draws of great splits, and what it says of their words. Plain; nothing of the program stands here but the specification of its words. -/
namespace Go.Proofs.YtkchalnohkfhbaaDoor

/-- lanes of ones, and of 0, 1, 2, .. -/
noncomputable def onesL (L : Nat) : Nat := Nat.div (Nat.sub (Nat.pow 2 (Nat.mul 64 L)) 1) 18446744073709551615
noncomputable def iotaL (L : Nat) : Nat := Nat.div (Nat.sub (Nat.add 1 (Nat.mul L (Nat.pow 2 (Nat.mul 64 L)))) (Nat.add (onesL L) (Nat.pow 2 (Nat.mul 64 L)))) 18446744073709551615
theorem pkN_succ (L : Nat) (g : Nat → Nat) : pkN (L + 1) g = 18446744073709551616 * (pkN L fun i => g (i + 1)) + g 0 := rfl
theorem pow_succ64 (L : Nat) : 2 ^ (64 * (L + 1)) = 18446744073709551616 * 2 ^ (64 * L) := by
  rw [show 64 * (L + 1) = 64 + 64 * L by omega, Nat.pow_add]
theorem ones_alg {O X c d : Nat} (h : O * c + 1 = X) (hd : d = c + 1) : (d * O + 1) * c + 1 = d * X := by
  rw [← h, Nat.add_mul, Nat.one_mul, Nat.mul_add, Nat.mul_assoc, Nat.mul_one]
  omega
theorem iota_alg {O X P Y c d : Nat} (h1 : P * c + O + X = 1 + Y) (h2 : O * c + 1 = X) : (d * (P + O) + 0) * c + (d * O + 1) + d * X = 1 + (d * Y + d * X) := by
  have a := congrArg (fun z => d * z) h1
  have b := congrArg (fun z => d * z) h2
  simp only [Nat.mul_add, Nat.mul_one, Nat.add_zero] at a b ⊢
  rw [Nat.add_mul, Nat.mul_assoc, Nat.mul_assoc]
  omega
theorem ones_rec : ∀ L, (pkN L fun _ => 1) * 18446744073709551615 + 1 = 2 ^ (64 * L)
  | 0 => rfl
  | L + 1 => by
    have ih := ones_rec L
    rw [pow_succ64]
    rw [pkN_succ]
    exact ones_alg ih rfl
theorem onesL_pk (L : Nat) : onesL L = pkN L fun _ => 1 := by
  have h := ones_rec L
  show (2 ^ (64 * L) - 1) / 18446744073709551615 = _
  rw [← h, Nat.add_sub_cancel, Nat.mul_div_cancel _ (by decide)]
theorem iota_rec : ∀ L, (pkN L fun i => i) * 18446744073709551615 + (pkN L fun _ => 1) + 2 ^ (64 * L) = 1 + L * 2 ^ (64 * L)
  | 0 => rfl
  | L + 1 => by
    have ih := iota_rec L
    have io := ones_rec L
    have e : (pkN L fun i => i + 1) = (pkN L fun i => i) + (pkN L fun _ => 1) := (pkN_add L (fun i => i) (fun _ => 1)).symm
    rw [pow_succ64]
    rw [pkN_succ, pkN_succ, e]
    have hm : (L + 1) * (18446744073709551616 * 2 ^ (64 * L)) = 18446744073709551616 * (L * 2 ^ (64 * L)) + 18446744073709551616 * 2 ^ (64 * L) := by
      rw [Nat.add_mul, Nat.one_mul, Nat.mul_left_comm]
    rw [hm]
    exact iota_alg ih io
theorem iotaL_pk (L : Nat) : iotaL L = pkN L fun i => i := by
  have h := iota_rec L
  show ((1 + L * 2 ^ (64 * L)) - (onesL L + 2 ^ (64 * L))) / 18446744073709551615 = _
  rw [onesL_pk, ← h, Nat.add_assoc, Nat.add_sub_cancel, Nat.mul_div_cancel _ (by decide)]
noncomputable def apL (L a0 sa : Nat) : Nat := Nat.add (Nat.mul (onesL L) a0) (Nat.mul (iotaL L) sa)
theorem apL_pk (L a0 sa : Nat) : apL L a0 sa = pkN L fun i => a0 + i * sa := by
  show onesL L * a0 + iotaL L * sa = _
  rw [onesL_pk, iotaL_pk, pkN_mul, pkN_mul, pkN_add]
  exact pkN_congr fun i _ => by rw [Nat.one_mul]
noncomputable def loA (L a0 sa : Nat) : Nat := Nat.land (apL L a0 sa) (Nat.mul (onesL L) 255)
noncomputable def mkL (L : Nat) : Nat := Nat.mul (onesL L) 4294967295
noncomputable def hiA (L a0 sa : Nat) : Nat := Nat.land (Nat.shiftRight (apL L a0 sa) 8) (mkL L)
theorem mkL_pk (L : Nat) : mkL L = pkN L fun _ => 4294967295 := by
  show onesL L * 4294967295 = _
  rw [onesL_pk, pkN_mul]
theorem loA_pk {L a0 sa : Nat} (h : ∀ i, i < L → a0 + i * sa < 65536) : loA L a0 sa = pkN L fun i => (a0 + i * sa) % 256 := by
  show apL L a0 sa &&& (onesL L * 255) = _
  rw [apL_pk, onesL_pk, pkN_mul, pkN_and (fun i hi => Nat.lt_trans (h i hi) (by decide)) (fun _ _ => by decide)]
  exact pkN_congr fun i _ => Nat.and_two_pow_sub_one_eq_mod _ 8
theorem hiA_pk {L a0 sa : Nat} (h : ∀ i, i < L → a0 + i * sa < 65536) : hiA L a0 sa = pkN L fun i => (a0 + i * sa) / 256 := by
  show (apL L a0 sa >>> 8) &&& mkL L = _
  rw [apL_pk, mkL_pk, pkN_shr (fun i hi => Nat.lt_trans (h i hi) (by decide)) 8 (by decide)]
  refine pkN_congr fun i hi => ?_
  have := h i hi
  rw [mask_mod, Nat.shiftRight_eq_div_pow]
  omega
/-- the lanes' bytes -/
def gv (a0 sa n0 sn k i : Nat) : Nat := match k with
  | 0 => 0
  | 1 => (a0 + i * sa) % 256
  | 2 => (a0 + i * sa) / 256
  | 3 => (n0 + i * sn) % 256
  | _ + 4 => (n0 + i * sn) / 256
noncomputable def GV (L a0 sa n0 sn k : Nat) : Nat := Nat.rec (motive := fun _ => Nat) 0 (fun k1 _ => Nat.rec (motive := fun _ => Nat) (loA L a0 sa) (fun k2 _ => Nat.rec (motive := fun _ => Nat) (hiA L a0 sa) (fun k3 _ => Nat.rec (motive := fun _ => Nat) (loA L n0 sn) (fun _ _ => hiA L n0 sn) k3) k2) k1) k
theorem GV_pk {L a0 sa n0 sn : Nat} (h : ∀ i, i < L → a0 + i * sa < 65536) (h' : ∀ i, i < L → n0 + i * sn < 65536) (k : Nat) : GV L a0 sa n0 sn k = pkN L (gv a0 sa n0 sn k) :=
  match k with
  | 0 => (pkN_zero L).symm
  | 1 => loA_pk h
  | 2 => hiA_pk h
  | 3 => loA_pk h'
  | _ + 4 => hiA_pk h'
/-- the lanes whose try t has a word among the last -/
noncomputable def failG (L ca cn a0 sa n0 sn g t : Nat) : Nat :=
  Nat.land (Nat.add (hashA (onesL L) (mkL L) (GV L a0 sa n0 sn) (specG ca cn t [⟨128, 0⟩]) (Nat.mul 8 (Nat.add (lC ca cn t) 6))) (Nat.mul (onesL L) (Nat.pow 2 g))) (Nat.mul (onesL L) 4294967296)
/-- none of the first, or none of both -/
noncomputable def chk2 (F0 F1 : Nat) : Bool := Bool.rec (motive := fun _ => Bool) (Nat.beq (Nat.land F0 F1) 0) true (Nat.beq F0 0)
/-- THE CHECK: no lane has both tries among the last -/
noncomputable def chkG (L ca cn a0 sa n0 sn g : Nat) : Bool := chk2 (failG L ca cn a0 sa n0 sn g 0) (failG L ca cn a0 sa n0 sn g 1)
theorem fail_bit {n g : Nat} {f : Nat → Nat} (hf : ∀ i, i < n → f i < 4294967296) (hg : g ≤ 20) {i : Nat} (hi : i < n) (hx : 4294967296 ≤ f i + 2 ^ g) : (pkN n fun i => (f i + 2 ^ g) &&& 4294967296).testBit (64 * i + 32) = true := by
  have hp : 2 ^ g ≤ 2 ^ 20 := Nat.pow_le_pow_right (by decide) hg
  rw [pkN_bit n _ (fun j _ => Nat.and_lt_two_pow _ (by decide))]
  have e1 : (64 * i + 32) / 64 = i := by omega
  have e2 : (64 * i + 32) % 64 = 32 := by omega
  rw [e1, e2, Nat.testBit_and, decide_eq_true hi]
  have h3 : (4294967296 : Nat).testBit 32 = true := by decide
  have h4 : (f i + 2 ^ g).testBit 32 = true := by
    rw [Nat.testBit_eq_decide_div_mod_eq, decide_eq_true_eq]
    have := hf i hi
    omega
  rw [h3, h4]
  rfl
theorem word_le_of (s : ByteArray) (l : List Int) (t : Int) : wordN s l t < ((shaS (ofM 8 [s, txt (encInts (l ++ [t]))])).a.toNat + 1) * 65536 := by
  unfold wordN ofH sha
  generalize shaS (ofM 8 [s, txt (encInts (l ++ [t]))]) = q at *
  rw [List.take_take, show min 6 16 = 6 from rfl]
  have e : (outTo q 32).take 6 = [byt (q.a.toNat / 256 ^ 3 % 256), byt (q.a.toNat / 256 ^ 2 % 256), byt (q.a.toNat / 256 ^ 1 % 256), byt (q.a.toNat / 256 ^ 0 % 256), byt (q.b.toNat / 256 ^ 3 % 256), byt (q.b.toNat / 256 ^ 2 % 256)] := rfl
  rw [e]
  unfold num
  simp only [List.foldl_cons, List.foldl_nil, byt_toNat (Nat.mod_lt _ (by decide : 256 > 0))]
  have ha := q.a.toNat_lt
  have hb := q.b.toNat_lt
  omega
section
variable {v : Nat → Nat → Nat} {i : Nat} (h0 : v 0 i = 0) (hv : ∀ k, v k i < 256)
include h0 hv
theorem eC_lt {k c : Nat} {r : List BS} (hr : ∀ y ∈ r, bsV v i y < 256) : ∀ y ∈ eC k c r, bsV v i y < 256 := by
  have hc : ∀ c, c < 256 → bsV v i ⟨c, 0⟩ < 256 := fun c hc => by unfold bsV; rw [h0]; omega
  have hk : ∀ k, bsV v i ⟨0, k⟩ < 256 := fun k => by unfold bsV; have := hv k; dsimp only; omega
  intro y hy
  match c, hy with
  | 0, hy =>
    rcases List.mem_cons.1 (show y ∈ BS.mk 128 0 :: r from hy) with rfl | hy
    · exact hc _ (by decide)
    · exact hr y hy
  | 1, hy =>
    rcases List.mem_cons.1 (show y ∈ BS.mk 129 0 :: BS.mk 0 k :: r from hy) with rfl | hy
    · exact hc _ (by decide)
    · rcases List.mem_cons.1 hy with rfl | hy
      · exact hk _
      · exact hr y hy
  | c + 2, hy =>
    rcases List.mem_cons.1 (show y ∈ BS.mk 130 0 :: BS.mk 0 (k + 1) :: BS.mk 0 k :: r from hy) with rfl | hy
    · exact hc _ (by decide)
    · rcases List.mem_cons.1 hy with rfl | hy
      · exact hk _
      · rcases List.mem_cons.1 hy with rfl | hy
        · exact hk _
        · exact hr y hy
theorem specG_lt {ca cn t : Nat} (ht : t < 2) (hl : lC ca cn t < 256) : ∀ y ∈ specG ca cn t [⟨128, 0⟩], bsV v i y < 256 := by
  have hc : ∀ c, c < 256 → bsV v i ⟨c, 0⟩ < 256 := fun c hc => by unfold bsV; rw [h0]; omega
  have hr : ∀ y ∈ eC 1 ca (eC 3 cn (e1 t [⟨128, 0⟩])), bsV v i y < 256 := eC_lt h0 hv (eC_lt h0 hv (e1_mem h0 (by omega) (fun y hy => by
    rcases List.mem_cons.1 hy with rfl | hy
    · exact hc _ (by decide)
    · exact absurd hy (by simp))))
  intro y hy
  have hy : y ∈ BS.mk 8 0 :: BS.mk 129 0 :: BS.mk 1 0 :: BS.mk 103 0 :: BS.mk 129 0 :: BS.mk (lC ca cn t) 0 :: BS.mk 129 0 :: BS.mk 3 0 :: eC 1 ca (eC 3 cn (e1 t [⟨128, 0⟩])) := hy
  rcases List.mem_cons.1 hy with rfl | hy
  · exact hc _ (by decide)
  rcases List.mem_cons.1 hy with rfl | hy
  · exact hc _ (by decide)
  rcases List.mem_cons.1 hy with rfl | hy
  · exact hc _ (by decide)
  rcases List.mem_cons.1 hy with rfl | hy
  · exact hc _ (by decide)
  rcases List.mem_cons.1 hy with rfl | hy
  · exact hc _ (by decide)
  rcases List.mem_cons.1 hy with rfl | hy
  · exact hc _ hl
  rcases List.mem_cons.1 hy with rfl | hy
  · exact hc _ (by decide)
  rcases List.mem_cons.1 hy with rfl | hy
  · exact hc _ (by decide)
  exact hr y hy
end
/-- the hashes of a try, lane by lane -/
theorem try_eq {L ca cn a0 sa n0 sn t : Nat} {s : ByteArray} (hs : s.data.toList = [byt 103]) (ha : ∀ i, i < L → InC ca (a0 + i * sa)) (hn : ∀ i, i < L → InC cn (n0 + i * sn)) (hc : ca ≤ 2 ∧ cn ≤ 2) (ht : t < 2) :
    hashA (onesL L) (mkL L) (GV L a0 sa n0 sn) (specG ca cn t [⟨128, 0⟩]) (Nat.mul 8 (Nat.add (lC ca cn t) 6)) = pkN L fun i => (shaS (ofM 8 [s, txt (encInts ([((a0 + i * sa : Nat) : Int), ((n0 + i * sn : Nat) : Int)] ++ [(t : Int)]))])).a.toNat := by
  have big : ∀ {c x}, InC c x → x < 65536 := fun h => by rcases h with h | h | h <;> omega
  have hll : lC ca cn t < 50 := by show (ca + cn) + (t + 5) < 50; omega
  have hv : ∀ i, i < L → ∀ k, gv a0 sa n0 sn k i < 256 := fun i hi k => by
    have h1 := big (ha i hi)
    have h2 := big (hn i hi)
    unfold gv
    split <;> omega
  have hsp : ∀ i, i < L → _ := fun i hi => specG_map (v := gv a0 sa n0 sn) (i := i) rfl hs (ha i hi) (hn i hi) ht rfl rfl rfl rfl [⟨128, 0⟩]
  have hl : ∀ i, i < L → (ofM 8 [s, txt (encInts ([((a0 + i * sa : Nat) : Int), ((n0 + i * sn : Nat) : Int)] ++ [(t : Int)]))]).length ≤ 55 := fun i hi => by rw [(hsp i hi).2]; omega
  have key := hashA_eq (n := L) (v := gv a0 sa n0 sn) (V := GV L a0 sa n0 sn) (GV_pk (fun i hi => big (ha i hi)) (fun i hi => big (hn i hi))) (L := specG ca cn t [⟨128, 0⟩]) (len := lC ca cn t + 6)
    (fun i => ofM 8 [s, txt (encInts ([((a0 + i * sa : Nat) : Int), ((n0 + i * sn : Nat) : Int)] ++ [(t : Int)]))] ++ padB (ofM 8 [s, txt (encInts ([((a0 + i * sa : Nat) : Int), ((n0 + i * sn : Nat) : Int)] ++ [(t : Int)]))]).length) (fun i hi => ?_)
  · rw [onesL_pk, mkL_pk]
    refine Eq.trans key (pkN_congr fun i hi => ?_)
    rw [shaS_one _ (hl i hi)]
  · obtain ⟨e1, e2⟩ := hsp i hi
    have hbs : [BS.mk 128 0].map (bsB (gv a0 sa n0 sn) i) = [byt 128] := by simp [bs_const (v := gv a0 sa n0 sn) (i := i) rfl]
    rw [hbs] at e1
    refine ⟨fun j hj => ?_, by rw [← e2]; exact pad_hi (hl i hi)⟩
    rcases part_nat (ofM 8 [s, txt (encInts ([((a0 + i * sa : Nat) : Int), ((n0 + i * sn : Nat) : Int)] ++ [(t : Int)]))] ++ padB (ofM 8 [s, txt (encInts ([((a0 + i * sa : Nat) : Int), ((n0 + i * sn : Nat) : Int)] ++ [(t : Int)]))]).length) j with e | e
    · rw [e, pad_lo (hl i hi) (by omega), pad_lo (hl i hi) (by omega), pad_lo (hl i hi) (by omega), pad_lo (hl i hi) (by omega), ← e1]
      have hat : ∀ m, (((specG ca cn t [⟨128, 0⟩]).map (bsB (gv a0 sa n0 sn) i))[m]?.getD 0).toNat = bsV (gv a0 sa n0 sn) i (atB (specG ca cn t [⟨128, 0⟩]) m) := by
        intro m
        unfold atB
        rw [List.getElem?_map]
        cases hm : (specG ca cn t [⟨128, 0⟩])[m]? with
        | none => rfl
        | some x =>
          show (byt (bsV (gv a0 sa n0 sn) i x)).toNat = bsV (gv a0 sa n0 sn) i x
          exact byt_toNat (specG_lt (v := gv a0 sa n0 sn) (i := i) rfl (hv i hi) ht (by omega) x (List.mem_of_getElem? hm))
      rw [hat, hat, hat, hat]
      rfl
    · omega
/-- a word of a try is not among the last -/
def Good (s : ByteArray) (a n t : Nat) (g : Nat) : Prop := wordN s [(a : Int), (n : Int)] (t : Int) + 2 ^ (g + 16) ≤ 281474976710656
theorem chk_abs (F0 F1 : Nat) (h : chk2 F0 F1 = true) : F0 = 0 ∨ F0 &&& F1 = 0 := by
  unfold chk2 at h
  cases hb : Nat.beq F0 0 with
  | true => exact Or.inl (Nat.eq_of_beq_eq_true hb)
  | false =>
    rw [hb] at h
    exact Or.inr (Nat.eq_of_beq_eq_true h)
theorem chkG_eq (L ca cn a0 sa n0 sn g : Nat) : chkG L ca cn a0 sa n0 sn g = chk2 (failG L ca cn a0 sa n0 sn g 0) (failG L ca cn a0 sa n0 sn g 1) := rfl
theorem no_both {F0 F1 k : Nat} (h : F0 = 0 ∨ F0 &&& F1 = 0) (b0 : F0.testBit k = true) (b1 : F1.testBit k = true) : False := by
  rcases h with h | h
  · rw [h] at b0
    simp at b0
  · have := congrArg (fun x => Nat.testBit x k) h
    rw [Nat.testBit_and, b0, b1] at this
    simp at this
theorem failG_eq {L ca cn a0 sa n0 sn g : Nat} {s : ByteArray} (hs : s.data.toList = [byt 103]) (ha : ∀ i, i < L → InC ca (a0 + i * sa)) (hn : ∀ i, i < L → InC cn (n0 + i * sn)) (hc : ca ≤ 2 ∧ cn ≤ 2) (hg : g ≤ 20) : ∀ t, t < 2 → failG L ca cn a0 sa n0 sn g t = pkN L fun i => ((shaS (ofM 8 [s, txt (encInts ([((a0 + i * sa : Nat) : Int), ((n0 + i * sn : Nat) : Int)] ++ [(t : Int)]))])).a.toNat + 2 ^ g) &&& 4294967296 := by
  intro t ht
  have hp : 2 ^ g ≤ 2 ^ 20 := Nat.pow_le_pow_right (by decide) hg
  have key := try_eq hs ha hn hc ht
  unfold failG
  rw [key]
  show ((pkN L _ + onesL L * 2 ^ g) &&& (onesL L * 4294967296)) = _
  rw [onesL_pk, pkN_mul, pkN_mul, pkN_add, pkN_and (fun j _ => by
    have := (shaS (ofM 8 [s, txt (encInts ([((a0 + j * sa : Nat) : Int), ((n0 + j * sn : Nat) : Int)] ++ [(t : Int)]))])).a.toNat_lt
    omega) (fun _ _ => by decide)]
  exact pkN_congr fun j _ => by rw [Nat.one_mul, Nat.one_mul]
theorem failG_bad {L ca cn a0 sa n0 sn g : Nat} {s : ByteArray} (hs : s.data.toList = [byt 103]) (ha : ∀ i, i < L → InC ca (a0 + i * sa)) (hn : ∀ i, i < L → InC cn (n0 + i * sn)) (hc : ca ≤ 2 ∧ cn ≤ 2) (hg : g ≤ 20) {i : Nat} (hi : i < L) : ∀ t, t < 2 → ¬ Good s (a0 + i * sa) (n0 + i * sn) t g → (failG L ca cn a0 sa n0 sn g t).testBit (64 * i + 32) = true := by
  intro t ht hb
  rw [failG_eq hs ha hn hc hg t ht]
  refine fail_bit (f := fun i => (shaS (ofM 8 [s, txt (encInts ([((a0 + i * sa : Nat) : Int), ((n0 + i * sn : Nat) : Int)] ++ [(t : Int)]))])).a.toNat) (fun j _ => UInt32.toNat_lt _) hg hi ?_
  have hw := word_le_of s [((a0 + i * sa : Nat) : Int), ((n0 + i * sn : Nat) : Int)] (t : Int)
  unfold Good at hb
  rw [Nat.pow_add] at hb
  generalize (shaS (ofM 8 [s, txt (encInts ([((a0 + i * sa : Nat) : Int), ((n0 + i * sn : Nat) : Int)] ++ [(t : Int)]))])).a.toNat = q at *
  generalize wordN s [((a0 + i * sa : Nat) : Int), ((n0 + i * sn : Nat) : Int)] (t : Int) = w at *
  generalize 2 ^ g = G at *
  omega
/-- WHAT THE CHECK SAYS -/
theorem chkG_sound {L ca cn a0 sa n0 sn g : Nat} {s : ByteArray} (hs : s.data.toList = [byt 103]) (ha : ∀ i, i < L → InC ca (a0 + i * sa)) (hn : ∀ i, i < L → InC cn (n0 + i * sn)) (hc : ca ≤ 2 ∧ cn ≤ 2) (hg : g ≤ 20)
    (h : chkG L ca cn a0 sa n0 sn g = true) : ∀ i, i < L → Good s (a0 + i * sa) (n0 + i * sn) 0 g ∨ Good s (a0 + i * sa) (n0 + i * sn) 1 g := by
  intro i hi
  by_cases h1 : Good s (a0 + i * sa) (n0 + i * sn) 0 g
  · exact Or.inl h1
  refine Or.inr (Classical.byContradiction fun h2 => ?_)
  have b1 := failG_bad hs ha hn hc hg hi 0 (by decide) h1
  have b2 := failG_bad hs ha hn hc hg hi 1 (by decide) h2
  rw [chkG_eq] at h
  exact no_both (chk_abs _ _ h) b1 b2
end Go.Proofs.YtkchalnohkfhbaaDoor
/- The batches of the draws of great splits, and what they say of the words. Plain; nothing of the program stands here but the specification of its words. -/
namespace Go.Proofs.YtkchalnohkfhbaaDoor

/-- node j of a depth where n is from lo on, L of them: all starts from j * (n - 1) to j * (n + 1) -/
noncomputable def chkD (lo L j : Nat) : Bool := allR (fun e => chkG L 2 2 (Nat.add (Nat.mul j (Nat.sub lo 1)) e) j lo 1 20) 0 (Nat.add (Nat.mul 2 j) 1)
/-- the first node of a depth -/
noncomputable def chkF (lo L : Nat) : Bool := chkG L 0 2 0 0 lo 1 20
/-- a small n (of class cn): all starts but 0 -/
noncomputable def chkN (cn n : Nat) : Bool := also (chkG 255 1 cn 1 1 n 0 12) (allR (fun c => chkG 4080 2 cn (Nat.add 256 (Nat.mul 4080 c)) 1 n 0 12) 0 16)
/-- both tries are not refused together -/
def Good2 (s : ByteArray) (a n g : Nat) : Prop := Good s a n 0 g ∨ Good s a n 1 g
section
variable {s : ByteArray} (hs : s.data.toList = [byt 103])
include hs
theorem chkD_at {lo L j : Nat} (hj : 1 ≤ j) (hlo : 300 ≤ lo) (hb : j * (lo + L) < 65536) (hL : lo + L ≤ 65536) (h : chkD lo L j = true) {n e : Nat} (h1 : lo ≤ n) (h2 : n < lo + L) (he : e ≤ 2 * j) : Good2 s (j * (n - 1) + e) n 20 := by
  have hc := allR_at (show allR (fun e => chkG L 2 2 (Nat.add (Nat.mul j (Nat.sub lo 1)) e) j lo 1 20) 0 (2 * j + 1) = true from h) e (by omega) (by omega)
  have hm : 299 ≤ j * (lo - 1) := Nat.le_trans (by omega) (Nat.le_mul_of_pos_left (lo - 1) hj)
  have hin : ∀ i, i < L → InC 2 ((j * (lo - 1) + e) + i * j) := by
    intro i hi
    right; right
    refine ⟨rfl, by omega, ?_⟩
    have e1 : j * (lo - 1) + i * j = j * (lo - 1 + i) := by rw [Nat.mul_add, Nat.mul_comm i]
    have e2 : j * (lo - 1 + i) + 2 * j = j * (lo - 1 + i + 2) := by rw [Nat.mul_add j _ 2, Nat.mul_comm j 2]
    have e3 : j * (lo - 1 + i + 2) ≤ j * (lo + L) := Nat.mul_le_mul_left j (by omega)
    omega
  have key := chkG_sound hs hin (fun i hi => Or.inr (Or.inr ⟨rfl, by omega, by omega⟩)) ⟨Nat.le_refl 2, Nat.le_refl 2⟩ (by decide) hc (n - lo) (by omega)
  have ea : j * (lo - 1) + e + (n - lo) * j = j * (n - 1) + e := by
    rw [show n - 1 = (lo - 1) + (n - lo) by omega, Nat.mul_add, Nat.mul_comm (n - lo)]
    omega
  have en : lo + (n - lo) * 1 = n := by omega
  rw [ea, en] at key
  exact key
theorem chkF_at {lo L : Nat} (hlo : 300 ≤ lo) (hL : lo + L ≤ 65536) (h : chkF lo L = true) {n : Nat} (h1 : lo ≤ n) (h2 : n < lo + L) : Good2 s 0 n 20 := by
  have key := chkG_sound hs (fun i hi => Or.inl ⟨rfl, by omega⟩) (fun i hi => Or.inr (Or.inr ⟨rfl, by omega, by omega⟩)) ⟨Nat.zero_le 2, Nat.le_refl 2⟩ (by decide) (show chkG L 0 2 0 0 lo 1 20 = true from h) (n - lo) (by omega)
  have en : lo + (n - lo) * 1 = n := by omega
  have ea : 0 + (n - lo) * 0 = 0 := by omega
  rw [ea, en] at key
  exact key
theorem chkN_at {cn n : Nat} (hn : InC cn n) (h : chkN cn n = true) {a : Nat} (h1 : 1 ≤ a) (h2 : a < 65536) : Good2 s a n 12 := by
  have hc : cn ≤ 2 := by rcases hn with h | h | h <;> omega
  obtain ⟨g1, g2⟩ := also_iff.1 (show also (chkG 255 1 cn 1 1 n 0 12) (allR (fun c => chkG 4080 2 cn (Nat.add 256 (Nat.mul 4080 c)) 1 n 0 12) 0 16) = true from h)
  have en : ∀ i, n + i * 0 = n := fun i => by omega
  by_cases hs' : a < 256
  · have key := chkG_sound hs (fun i hi => Or.inr (Or.inl ⟨rfl, by omega, by omega⟩)) (fun i hi => by rw [en]; exact hn) ⟨by decide, hc⟩ (by decide) g1 (a - 1) (by omega)
    rw [en, show 1 + (a - 1) * 1 = a by omega] at key
    exact key
  · have hq : (a - 256) / 4080 < 16 := by omega
    have g := allR_at g2 ((a - 256) / 4080) (by omega) (by omega)
    have key := chkG_sound hs (L := 4080) (ca := 2) (a0 := 256 + 4080 * ((a - 256) / 4080)) (sa := 1) (fun i hi => Or.inr (Or.inr ⟨rfl, by omega, by omega⟩)) (fun i hi => by rw [en]; exact hn) ⟨by decide, hc⟩ (by decide) g ((a - 256) % 4080) (by omega)
    rw [en, show 256 + 4080 * ((a - 256) / 4080) + (a - 256) % 4080 * 1 = a by omega] at key
    exact key
end
end Go.Proofs.YtkchalnohkfhbaaDoor
