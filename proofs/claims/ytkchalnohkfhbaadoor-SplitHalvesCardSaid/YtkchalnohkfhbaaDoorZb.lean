/- The rounds of SHA-256 on lanes: many hashes at once, as naturals; what they say of each lane. Plain; nothing of the program stands here. -/
import Derived.Test.YtkchalnohkfhbaaDoorZa
import Derived.Test.YtkchalnohkfhbaaDoorHc
set_option linter.unusedSimpArgs false
set_option linter.unusedVariables false
namespace Go.Proofs.YtkchalnohkfhbaaDoor

/-- the rounds on lanes: k for each round, the eight words, b xor c, sixteen words of the schedule; at the end: no lane's a is the number that makes the first word of the hash all ones -/
noncomputable abbrev vRounds (one M : Nat) (K : List Nat) : Nat → Nat → Nat → Nat → Nat → Nat → Nat → Nat → Nat → Nat → Nat → Nat → Nat → Nat → Nat → Nat → Nat → Nat → Nat → Nat → Nat → Nat → Nat → Nat → Nat → Bool :=
  List.rec (motive := fun _ => Nat → Nat → Nat → Nat → Nat → Nat → Nat → Nat → Nat → Nat → Nat → Nat → Nat → Nat → Nat → Nat → Nat → Nat → Nat → Nat → Nat → Nat → Nat → Nat → Nat → Bool)
    (fun a b c d e f g h x w0 w1 w2 w3 w4 w5 w6 w7 w8 w9 w10 w11 w12 w13 w14 w15 => Nat.beq (Nat.land (Nat.add (Nat.xor a (Nat.mul one 2515933592)) M) (Nat.mul one 4294967296)) (Nat.mul one 4294967296))
    (fun k ks ih a b c d e f g h x w0 w1 w2 w3 w4 w5 w6 w7 w8 w9 w10 w11 w12 w13 w14 w15 => (fun t1 => ih (Nat.land (Nat.add t1 (Nat.add (Nat.land (Nat.xor (Nat.xor (Nat.shiftRight (Nat.mul a 4294967297) 2) (Nat.shiftRight (Nat.mul a 4294967297) 13)) (Nat.shiftRight (Nat.mul a 4294967297) 22)) M) (Nat.xor b (Nat.land x (Nat.xor a b))))) M) a b c (Nat.land (Nat.add d t1) M) e f g (Nat.xor a b) w1 w2 w3 w4 w5 w6 w7 w8 w9 w10 w11 w12 w13 w14 w15 (Nat.land (Nat.add (Nat.add w0 (Nat.land (Nat.xor (Nat.xor (Nat.shiftRight (Nat.mul w1 4294967297) 7) (Nat.shiftRight (Nat.mul w1 4294967297) 18)) (Nat.shiftRight w1 3)) M)) (Nat.add w9 (Nat.land (Nat.xor (Nat.xor (Nat.shiftRight (Nat.mul w14 4294967297) 17) (Nat.shiftRight (Nat.mul w14 4294967297) 19)) (Nat.shiftRight w14 10)) M))) M)) (Nat.add (Nat.add (Nat.add h (Nat.land (Nat.xor (Nat.xor (Nat.shiftRight (Nat.mul e 4294967297) 6) (Nat.shiftRight (Nat.mul e 4294967297) 11)) (Nat.shiftRight (Nat.mul e 4294967297) 25)) M)) (Nat.xor g (Nat.land e (Nat.xor f g)))) (Nat.add w0 (Nat.mul one k)))) K
theorem vRounds_nil (one M a b c d e f g h x w0 w1 w2 w3 w4 w5 w6 w7 w8 w9 w10 w11 w12 w13 w14 w15 : Nat) : vRounds one M [] a b c d e f g h x w0 w1 w2 w3 w4 w5 w6 w7 w8 w9 w10 w11 w12 w13 w14 w15 = Nat.beq (((a ^^^ (one * 2515933592)) + M) &&& (one * 4294967296)) (one * 4294967296) := rfl
/-- three shifts, their exclusive or, the low 32 bits -/
def x3 (M y s1 s2 z s3 : Nat) : Nat := (((y >>> s1) ^^^ (y >>> s2)) ^^^ (z >>> s3)) &&& M
theorem vRounds_cons (one M k : Nat) (ks : List Nat) (a b c d e f g h x w0 w1 w2 w3 w4 w5 w6 w7 w8 w9 w10 w11 w12 w13 w14 w15 : Nat) : vRounds one M (k :: ks) a b c d e f g h x w0 w1 w2 w3 w4 w5 w6 w7 w8 w9 w10 w11 w12 w13 w14 w15 =
    vRounds one M ks ((((((h + x3 M (e * 4294967297) 6 11 (e * 4294967297) 25) + (g ^^^ (e &&& (f ^^^ g)))) + (w0 + one * k)) + (x3 M (a * 4294967297) 2 13 (a * 4294967297) 22 + (b ^^^ (x &&& (a ^^^ b))))) &&& M)) a b c
      ((d + (((h + x3 M (e * 4294967297) 6 11 (e * 4294967297) 25) + (g ^^^ (e &&& (f ^^^ g)))) + (w0 + one * k))) &&& M) e f g (a ^^^ b) w1 w2 w3 w4 w5 w6 w7 w8 w9 w10 w11 w12 w13 w14 w15
      (((w0 + x3 M (w1 * 4294967297) 7 18 w1 3) + (w9 + x3 M (w14 * 4294967297) 17 19 w14 10)) &&& M) := rfl

/-- words in lanes -/
def pk (n : Nat) (f : Nat → UInt32) : Nat := pkN n (fun i => (f i).toNat)
theorem u64 (x : UInt32) : x.toNat < 2 ^ 64 := Nat.lt_trans x.toNat_lt (by decide)
theorem mask_mod (x : Nat) : x &&& 4294967295 = x % 4294967296 := Nat.and_two_pow_sub_one_eq_mod x 32
theorem pkN_mask {n : Nat} {g : Nat → Nat} (hg : ∀ i, i < n → g i < 2 ^ 64) : pkN n g &&& pkN n (fun _ => 4294967295) = pkN n (fun i => g i % 4294967296) := by
  rw [pkN_and hg (fun _ _ => by decide)]
  exact pkN_congr fun i _ => mask_mod _
theorem rot_lane (x : UInt32) (s : Nat) (h0 : 0 < s) (h1 : s < 32) : ((x.toNat * 4294967297) >>> s) &&& 4294967295 = (rotr x s).toNat := by
  have hx := x.toNat_lt
  have e1 : (lw x (32 - s)).toNat = x.toNat * 2 ^ (32 - s) % 4294967296 := by
    have := w_shl x (32 - s) (by omega)
    have h2 : ((x.toNat * 2 ^ (32 - s) % 4294967296 : Nat) : Int) = ((lw x (32 - s)).toNat : Int) := by rw [← this]; simp
    omega
  have e2 : (sw x s).toNat = x.toNat / 2 ^ s := by
    have := w_shr x s h1
    have h2 : ((x.toNat / 2 ^ s : Nat) : Int) = ((sw x s).toNat : Int) := by rw [← this]; simp
    omega
  unfold rotr ow
  rw [UInt32.toNat_or, e1, e2]
  apply Nat.eq_of_testBit_eq
  intro j
  rw [Nat.testBit_and, Nat.testBit_shiftRight, show (4294967295 : Nat) = 2 ^ 32 - 1 from rfl, Nat.testBit_two_pow_sub_one, Nat.testBit_or, show (4294967296 : Nat) = 2 ^ 32 from rfl, Nat.testBit_mod_two_pow, ← Nat.shiftLeft_eq, Nat.testBit_shiftLeft, ← Nat.shiftRight_eq_div_pow, Nat.testBit_shiftRight,
    show x.toNat * 4294967297 = 2 ^ 32 * x.toNat + x.toNat by omega, Nat.testBit_two_pow_mul_add _ hx]
  by_cases hj : j < 32
  · by_cases hs : s + j < 32
    · have e3 : ¬ (32 - s ≤ j) := by omega
      simp [hj, hs, e3]
    · have e3 : 32 - s ≤ j := by omega
      have e4 : x.toNat.testBit (s + j) = false := Nat.testBit_lt_two_pow (Nat.lt_of_lt_of_le hx (Nat.pow_le_pow_right (by decide) (by omega)))
      rw [e4]
      simp [hj, hs, e3, show s + j - 32 = j - (32 - s) by omega]
  · have e4 : x.toNat.testBit (s + j) = false := Nat.testBit_lt_two_pow (Nat.lt_of_lt_of_le hx (Nat.pow_le_pow_right (by decide) (by omega)))
    simp [hj, e4]
theorem shr_lane (x : UInt32) (s : Nat) (h1 : s < 32) : (x.toNat >>> s) &&& 4294967295 = (sw x s).toNat := by
  have hx := x.toNat_lt
  have := w_shr x s h1
  have h2 : ((x.toNat / 2 ^ s : Nat) : Int) = ((sw x s).toNat : Int) := by rw [← this]; simp
  rw [mask_mod, Nat.shiftRight_eq_div_pow, Nat.mod_eq_of_lt (Nat.lt_of_le_of_lt (Nat.div_le_self _ _) hx)]
  omega
theorem x3_rot {n : Nat} (f : Nat → UInt32) (s1 s2 s3 : Nat) (h1 : 0 < s1 ∧ s1 < 32) (h2 : 0 < s2 ∧ s2 < 32) (h3 : 0 < s3 ∧ s3 < 32) :
    x3 (pkN n fun _ => 4294967295) (pk n f * 4294967297) s1 s2 (pk n f * 4294967297) s3 = pk n (fun i => mixU (f i) s1 s2 s3) := by
  have hb : ∀ i, i < n → (f i).toNat * 4294967297 < 2 ^ 64 := fun i _ => by have := (f i).toNat_lt; omega
  have hm : ∀ x : Nat, x &&& 4294967295 < 2 ^ 64 := fun x => Nat.and_lt_two_pow x (by decide)
  unfold x3 pk
  rw [pkN_mul, Nat.and_xor_distrib_right, Nat.and_xor_distrib_right, pkN_shr hb s1 (by omega), pkN_shr hb s2 (by omega), pkN_shr hb s3 (by omega), pkN_xor (fun _ _ => hm _) (fun _ _ => hm _), pkN_xor (fun _ _ => Nat.xor_lt_two_pow (hm _) (hm _)) (fun _ _ => hm _)]
  refine pkN_congr fun i _ => ?_
  rw [rot_lane _ _ h1.1 h1.2, rot_lane _ _ h2.1 h2.2, rot_lane _ _ h3.1 h3.2]
  unfold mixU xw
  rw [UInt32.toNat_xor, UInt32.toNat_xor]
theorem x3_sig {n : Nat} (f : Nat → UInt32) (s1 s2 s3 : Nat) (h1 : 0 < s1 ∧ s1 < 32) (h2 : 0 < s2 ∧ s2 < 32) (h3 : s3 < 32) :
    x3 (pkN n fun _ => 4294967295) (pk n f * 4294967297) s1 s2 (pk n f) s3 = pk n (fun i => xw (xw (rotr (f i) s1) (rotr (f i) s2)) (sw (f i) s3)) := by
  have hb : ∀ i, i < n → (f i).toNat * 4294967297 < 2 ^ 64 := fun i _ => by have := (f i).toNat_lt; omega
  have hm : ∀ x : Nat, x &&& 4294967295 < 2 ^ 64 := fun x => Nat.and_lt_two_pow x (by decide)
  unfold x3 pk
  rw [pkN_mul, Nat.and_xor_distrib_right, Nat.and_xor_distrib_right, pkN_shr hb s1 (by omega), pkN_shr hb s2 (by omega), pkN_shr (fun i _ => u64 _) s3 (by omega), pkN_xor (fun _ _ => hm _) (fun _ _ => hm _), pkN_xor (fun _ _ => Nat.xor_lt_two_pow (hm _) (hm _)) (fun _ _ => hm _)]
  refine pkN_congr fun i _ => ?_
  rw [rot_lane _ _ h1.1 h1.2, rot_lane _ _ h2.1 h2.2, shr_lane _ _ h3]
  unfold xw
  rw [UInt32.toNat_xor, UInt32.toNat_xor]
theorem pk_xor {n : Nat} (f g : Nat → UInt32) : pk n f ^^^ pk n g = pk n (fun i => f i ^^^ g i) := by
  unfold pk
  rw [pkN_xor (fun _ _ => u64 _) (fun _ _ => u64 _)]
  exact pkN_congr fun i _ => (UInt32.toNat_xor _ _).symm
theorem pk_and {n : Nat} (f g : Nat → UInt32) : pk n f &&& pk n g = pk n (fun i => f i &&& g i) := by
  unfold pk
  rw [pkN_and (fun _ _ => u64 _) (fun _ _ => u64 _)]
  exact pkN_congr fun i _ => (UInt32.toNat_and _ _).symm
theorem ch_lane (e f g : UInt32) : g ^^^ (e &&& (f ^^^ g)) = chW e f g := by
  unfold chW xw nw cw
  apply UInt32.toBitVec_inj.1
  simp only [UInt32.toBitVec_xor, UInt32.toBitVec_and, UInt32.toBitVec_not]
  ext j hj
  simp only [BitVec.getElem_xor, BitVec.getElem_and, BitVec.getElem_not]
  cases e.toBitVec[j] <;> cases f.toBitVec[j] <;> cases g.toBitVec[j] <;> rfl
theorem maj_lane (a b c : UInt32) : b ^^^ ((b ^^^ c) &&& (a ^^^ b)) = majW a b c := by
  unfold majW xw nw
  apply UInt32.toBitVec_inj.1
  simp only [UInt32.toBitVec_xor, UInt32.toBitVec_and]
  ext j hj
  simp only [BitVec.getElem_xor, BitVec.getElem_and]
  cases a.toBitVec[j] <;> cases b.toBitVec[j] <;> cases c.toBitVec[j] <;> rfl
/-- the rounds of one lane -/
def runL (st : St) (Wf : Nat → UInt32) : List UInt32 → Nat → St
  | [], _ => st
  | k :: ks, t => runL (st.rnd k (Wf t)) Wf ks (t + 1)
/-- no lane's number is c -/
theorem fin_sound {n : Nat} {f : Nat → UInt32} (c : UInt32) (h : Nat.beq (((pk n f ^^^ (pkN n (fun _ => 1) * c.toNat)) + pkN n (fun _ => 4294967295)) &&& (pkN n (fun _ => 1) * 4294967296)) (pkN n (fun _ => 1) * 4294967296) = true) : ∀ i, i < n → f i ≠ c := by
  intro i hi hf
  have h := Nat.eq_of_beq_eq_true h
  have hx : ∀ j, (f j).toNat ^^^ (1 * c.toNat) < 2 ^ 32 := fun j => by rw [Nat.one_mul]; exact Nat.xor_lt_two_pow (f j).toNat_lt c.toNat_lt
  have hb : ∀ j, ((f j).toNat ^^^ (1 * c.toNat)) + 4294967295 < 2 ^ 64 := fun j => by have := hx j; omega
  unfold pk at h
  rw [pkN_mul, pkN_mul, pkN_xor (fun _ _ => u64 _) (fun _ _ => by rw [Nat.one_mul]; exact u64 _), pkN_add, pkN_and (fun j _ => hb j) (fun _ _ => by decide)] at h
  have hbit := congrArg (fun x => Nat.testBit x (64 * i + 32)) h
  rw [pkN_bit n _ (fun j _ => Nat.and_lt_two_pow _ (by decide)), pkN_bit n _ (fun _ _ => by decide)] at hbit
  have e1 : (64 * i + 32) / 64 = i := by omega
  have e2 : (64 * i + 32) % 64 = 32 := by omega
  rw [e1, e2, hf, Nat.one_mul, Nat.xor_self] at hbit
  simp [hi] at hbit
  exact absurd hbit (by decide)
section
variable {n : Nat} {Wf : Nat → Nat → UInt32}
theorem vRounds_sound (hW : ∀ i t, Wf i (t + 16) = aw (aw (aw (Wf i t) (sig0 (Wf i (t + 1)))) (Wf i (t + 9))) (sig1 (Wf i (t + 14)))) : ∀ (ks : List UInt32) (st : Nat → St) (t : Nat),
    vRounds (pkN n fun _ => 1) (pkN n fun _ => 4294967295) (ks.map UInt32.toNat) (pk n fun i => (st i).a) (pk n fun i => (st i).b) (pk n fun i => (st i).c) (pk n fun i => (st i).d) (pk n fun i => (st i).e) (pk n fun i => (st i).f) (pk n fun i => (st i).g) (pk n fun i => (st i).h) (pk n fun i => (st i).b ^^^ (st i).c)
      (pk n fun i => Wf i (t + 0)) (pk n fun i => Wf i (t + 1)) (pk n fun i => Wf i (t + 2)) (pk n fun i => Wf i (t + 3)) (pk n fun i => Wf i (t + 4)) (pk n fun i => Wf i (t + 5)) (pk n fun i => Wf i (t + 6)) (pk n fun i => Wf i (t + 7)) (pk n fun i => Wf i (t + 8)) (pk n fun i => Wf i (t + 9)) (pk n fun i => Wf i (t + 10)) (pk n fun i => Wf i (t + 11)) (pk n fun i => Wf i (t + 12)) (pk n fun i => Wf i (t + 13)) (pk n fun i => Wf i (t + 14)) (pk n fun i => Wf i (t + 15)) = true → ∀ i, i < n → (runL (st i) (Wf i) ks t).a ≠ 2515933592
  | [], st, t, h => by
    rw [List.map_nil, vRounds_nil] at h
    exact fin_sound (f := fun i => (st i).a) 2515933592 h
  | k :: ks, st, t, h => by
    rw [List.map_cons, vRounds_cons] at h
    have ih := vRounds_sound hW ks (fun i => (st i).rnd k (Wf i t)) (t + 1)
    refine ih ?_
    rw [← h]
    have hm : ∀ x : Nat, x % 4294967296 < 2 ^ 64 := fun x => Nat.lt_trans (Nat.mod_lt _ (by decide)) (by decide)
    -- the parts
    have pS1 := x3_rot (n := n) (fun i => (st i).e) 6 11 25 (by decide) (by decide) (by decide)
    have pS0 := x3_rot (n := n) (fun i => (st i).a) 2 13 22 (by decide) (by decide) (by decide)
    have ps0 := x3_sig (n := n) (fun i => Wf i (t + 1)) 7 18 3 (by decide) (by decide) (by decide)
    have ps1 := x3_sig (n := n) (fun i => Wf i (t + 14)) 17 19 10 (by decide) (by decide) (by decide)
    have pch : (pk n fun i => (st i).g) ^^^ ((pk n fun i => (st i).e) &&& ((pk n fun i => (st i).f) ^^^ (pk n fun i => (st i).g))) = pk n fun i => chW (st i).e (st i).f (st i).g := by
      rw [pk_xor, pk_and, pk_xor]
      exact pkN_congr fun i _ => by dsimp only; rw [ch_lane]
    have pmj : (pk n fun i => (st i).b) ^^^ ((pk n fun i => (st i).b ^^^ (st i).c) &&& ((pk n fun i => (st i).a) ^^^ (pk n fun i => (st i).b))) = pk n fun i => majW (st i).a (st i).b (st i).c := by
      rw [pk_xor, pk_and, pk_xor]
      exact pkN_congr fun i _ => by dsimp only; rw [maj_lane]
    have pk1 : (pkN n fun _ => 1) * k.toNat = pkN n fun _ => k.toNat := by rw [pkN_mul]; exact pkN_congr fun _ _ => Nat.one_mul _
    rw [pS1, pS0, ps0, ps1, pch, pmj, pk1, pk_xor]
    have e0 : ∀ j : Nat, (pk n fun i => Wf i (t + 1 + j)) = pk n fun i => Wf i (t + (j + 1)) := fun j => by
      unfold pk
      exact pkN_congr fun i _ => by rw [show t + 1 + j = t + (j + 1) by omega]
    simp only [e0, Nat.reduceAdd]
    have ea : ((pk n fun i => ((st i).rnd k (Wf i t)).a)) = (pk n (fun i => (st i).h) + pk n (fun i => mixU (st i).e 6 11 25) + pk n (fun i => chW (st i).e (st i).f (st i).g) + (pk n (fun i => Wf i (t + 0)) + pkN n fun _ => k.toNat) + (pk n (fun i => mixU (st i).a 2 13 22) + pk n (fun i => majW (st i).a (st i).b (st i).c))) &&& (pkN n fun _ => 4294967295) := by
      unfold pk
      rw [pkN_add, pkN_add, pkN_add, pkN_add, pkN_add, pkN_add, pkN_mask (fun i _ => by
        have := (st i).h.toNat_lt; have := (mixU (st i).e 6 11 25).toNat_lt; have := (chW (st i).e (st i).f (st i).g).toNat_lt; have := (Wf i (t + 0)).toNat_lt; have := k.toNat_lt; have := (mixU (st i).a 2 13 22).toNat_lt; have := (majW (st i).a (st i).b (st i).c).toNat_lt
        dsimp only
        omega)]
      refine pkN_congr fun i _ => ?_
      simp only [St.rnd, rndX, rndY, aw, UInt32.toNat_add, Nat.add_zero]
      omega
    have ee : ((pk n fun i => ((st i).rnd k (Wf i t)).e)) = (pk n (fun i => (st i).d) + (pk n (fun i => (st i).h) + pk n (fun i => mixU (st i).e 6 11 25) + pk n (fun i => chW (st i).e (st i).f (st i).g) + (pk n (fun i => Wf i (t + 0)) + pkN n fun _ => k.toNat))) &&& (pkN n fun _ => 4294967295) := by
      unfold pk
      rw [pkN_add, pkN_add, pkN_add, pkN_add, pkN_add, pkN_mask (fun i _ => by
        have := (st i).h.toNat_lt; have := (mixU (st i).e 6 11 25).toNat_lt; have := (chW (st i).e (st i).f (st i).g).toNat_lt; have := (Wf i (t + 0)).toNat_lt; have := k.toNat_lt; have := (st i).d.toNat_lt
        dsimp only
        omega)]
      refine pkN_congr fun i _ => ?_
      simp only [St.rnd, rndX, rndY, aw, UInt32.toNat_add, Nat.add_zero]
      omega
    have ew : (pk n fun i => Wf i (t + 16)) = (pk n (fun i => Wf i (t + 0)) + pk n (fun i => xw (xw (rotr (Wf i (t + 1)) 7) (rotr (Wf i (t + 1)) 18)) (sw (Wf i (t + 1)) 3)) + (pk n (fun i => Wf i (t + 9)) + pk n (fun i => xw (xw (rotr (Wf i (t + 14)) 17) (rotr (Wf i (t + 14)) 19)) (sw (Wf i (t + 14)) 10)))) &&& (pkN n fun _ => 4294967295) := by
      unfold pk
      rw [pkN_add, pkN_add, pkN_add, pkN_mask (fun i _ => by
        have := (Wf i (t + 0)).toNat_lt; have := (xw (xw (rotr (Wf i (t + 1)) 7) (rotr (Wf i (t + 1)) 18)) (sw (Wf i (t + 1)) 3)).toNat_lt; have := (Wf i (t + 9)).toNat_lt; have := (xw (xw (rotr (Wf i (t + 14)) 17) (rotr (Wf i (t + 14)) 19)) (sw (Wf i (t + 14)) 10)).toNat_lt
        dsimp only
        omega)]
      refine pkN_congr fun i _ => ?_
      dsimp only
      rw [hW]
      simp only [sig0, sig1, aw, UInt32.toNat_add, Nat.add_zero]
      omega
    rw [ea, ee, ew]
    rfl
end
end Go.Proofs.YtkchalnohkfhbaaDoor
