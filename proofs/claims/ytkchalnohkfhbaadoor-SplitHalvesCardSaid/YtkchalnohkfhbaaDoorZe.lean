/- The batches of the draws of made splits: 9801 lanes, two of the path's numbers in them; what their checks say of the words. Plain; nothing of the program stands here but the specification of its words. -/
import Derived.Test.YtkchalnohkfhbaaDoorZd
set_option linter.unusedSimpArgs false
set_option linter.unusedVariables false
namespace Go.Proofs.YtkchalnohkfhbaaDoor

/-- the lanes' numbers -/
def vv (k i : Nat) : Nat := match k with
  | 0 => 0
  | 1 => i / 99
  | _ + 2 => i % 99
/-- sum of f r * 2 ^ (s * r), r below n -/
noncomputable def sumP (s : Nat) (f : Nat → Nat) (n : Nat) : Nat := Nat.rec (motive := fun _ => Nat) 0 (fun r ih => Nat.add ih (Nat.mul (f r) (Nat.pow 2 (Nat.mul s r)))) n
noncomputable def onS : Nat := sumP 64 (fun _ => 1) 99
noncomputable def v2S : Nat := sumP 64 (fun r => r) 99
noncomputable def mkS : Nat := onS * 4294967295
noncomputable def bl1 : Nat := sumP 6336 (fun _ => 1) 99
noncomputable def bl2 : Nat := sumP 6336 (fun r => r) 99
noncomputable def onC : Nat := onS * bl1
noncomputable def mkC : Nat := onC * 4294967295
noncomputable def v1C : Nat := onS * bl2
noncomputable def v2C : Nat := v2S * bl1
noncomputable def VC (k : Nat) : Nat := Nat.rec (motive := fun _ => Nat) 0 (fun k' _ => Nat.rec (motive := fun _ => Nat) v1C (fun _ _ => v2C) k') k
noncomputable def VS (k : Nat) : Nat := Nat.rec (motive := fun _ => Nat) 0 (fun k' _ => Nat.rec (motive := fun _ => Nat) 0 (fun _ _ => v2S) k') k
theorem pkN_append (a : Nat) : ∀ (b : Nat) (g : Nat → Nat), pkN (a + b) g = pkN a g + 2 ^ (64 * a) * pkN b (fun i => g (i + a)) := by
  induction a with
  | zero => intro b g; simp [pkN]
  | succ a ih =>
    intro b g
    have h := ih b (fun i => g (i + 1))
    have e : (pkN b fun i => g (i + (a + 1))) = pkN b fun i => (fun i => g (i + 1)) (i + a) := pkN_congr fun i _ => rfl
    rw [show a + 1 + b = (a + b) + 1 by omega, e, show 64 * (a + 1) = 64 + 64 * a by omega, Nat.pow_add, Nat.mul_assoc]
    show 2 ^ 64 * pkN (a + b) (fun i => g (i + 1)) + g 0 = (2 ^ 64 * pkN a (fun i => g (i + 1)) + g 0) + _
    rw [h]
    generalize 2 ^ (64 * a) * pkN b (fun i => (fun i => g (i + 1)) (i + a)) = z
    omega
theorem sumP_pk (f : Nat → Nat) : ∀ n, sumP 64 f n = pkN n f
  | 0 => rfl
  | n + 1 => by
    have h := pkN_append n 1 f
    have e : pkN 1 (fun i => f (i + n)) = f n := by simp [pkN]
    rw [e] at h
    rw [h, ← sumP_pk f n, Nat.mul_comm (2 ^ (64 * n))]
    rfl
theorem sumP_blocks (p : Nat) (f g : Nat → Nat) : ∀ q, (pkN (p * q) (fun i => f (i / p) * g (i % p))) = pkN p g * sumP (64 * p) f q
  | 0 => rfl
  | q + 1 => by
    rw [Nat.mul_add, Nat.mul_one, pkN_append, sumP_blocks p f g q]
    have e : pkN p (fun i => f ((i + p * q) / p) * g ((i + p * q) % p)) = pkN p g * f q := by
      rw [pkN_mul]
      refine pkN_congr fun i hi => ?_
      have hp : 0 < p := by omega
      rw [Nat.add_mul_div_left _ _ hp, Nat.div_eq_of_lt hi, Nat.add_mul_mod_self_left, Nat.mod_eq_of_lt hi, Nat.zero_add, Nat.mul_comm]
    rw [e]
    show _ = pkN p g * (sumP (64 * p) f q + f q * 2 ^ (64 * p * q))
    rw [Nat.mul_add, show 64 * (p * q) = 64 * p * q by rw [Nat.mul_assoc], Nat.mul_comm (2 ^ (64 * p * q)), Nat.mul_assoc]
theorem oneS_pk : (pkN 99 fun _ => 1) = onS := (sumP_pk _ _).symm
theorem v2S_pk : (pkN 99 fun r => r) = v2S := (sumP_pk _ _).symm
theorem blk_eq {p q : Nat} {f g h : Nat → Nat} {G S : Nat} (hG : pkN p g = G) (hS : sumP (64 * p) f q = S) (hh : ∀ i, f (i / p) * g (i % p) = h i) : pkN (p * q) h = G * S := by
  rw [← hG, ← hS, ← sumP_blocks]
  exact pkN_congr fun i _ => (hh i).symm
theorem bl1_eq : sumP (64 * 99) (fun _ => 1) 99 = bl1 := by
  unfold bl1
  rw [show 64 * 99 = 6336 from rfl]
theorem bl2_eq : sumP (64 * 99) (fun r => r) 99 = bl2 := by
  unfold bl2
  rw [show 64 * 99 = 6336 from rfl]
theorem one_pk : (pkN 9801 fun _ => 1) = onC := by
  unfold onC
  rw [show 9801 = 99 * 99 from rfl]
  exact blk_eq oneS_pk bl1_eq (fun _ => rfl)
theorem msk_pk : (pkN 9801 fun _ => 4294967295) = mkC := by
  unfold mkC
  rw [← one_pk, pkN_mul]
theorem mskS_pk : (pkN 99 fun _ => 4294967295) = mkS := by
  unfold mkS
  rw [← oneS_pk, pkN_mul]
theorem pkN_zero (n : Nat) : pkN n (fun _ => 0) = 0 := by
  have := pkN_mul n 0 (fun _ => 1)
  rw [Nat.mul_zero] at this
  exact this.symm
theorem v1C_pk : v1C = pkN 9801 (fun i => i / 99) := by
  unfold v1C
  rw [show 9801 = 99 * 99 from rfl]
  exact (blk_eq oneS_pk bl2_eq (fun _ => Nat.mul_one _)).symm
theorem v2C_pk : v2C = pkN 9801 (fun i => i % 99) := by
  unfold v2C
  rw [show 9801 = 99 * 99 from rfl]
  exact (blk_eq v2S_pk bl1_eq (fun _ => Nat.one_mul _)).symm
theorem VC_pk (k : Nat) : VC k = pkN 9801 (vv k) :=
  match k with
  | 0 => (pkN_zero 9801).symm
  | 1 => v1C_pk
  | _ + 2 => v2C_pk
theorem VS_pk (k : Nat) : VS k = pkN 99 (vv k) :=
  match k with
  | 0 => (pkN_zero 99).symm
  | 1 => (pkN_zero 99).symm.trans (pkN_congr fun i hi => (Nat.div_eq_of_lt hi).symm)
  | _ + 2 => v2S_pk.symm.trans (pkN_congr fun i hi => (Nat.mod_eq_of_lt hi).symm)
/-- the check of a batch, great and small -/
noncomputable def chk (sd : List Nat) (a n : Nat) (ps : List BS) : Bool := chkL onC mkC VC (specM sd ps a n [⟨128, 0⟩]) (Nat.mul 8 (lM sd ps a n))
noncomputable def chkS (sd : List Nat) (a n : Nat) (ps : List BS) : Bool := chkL onS mkS VS (specM sd ps a n [⟨128, 0⟩]) (Nat.mul 8 (lM sd ps a n))
/-- both -/
noncomputable def also (x y : Bool) : Bool := Bool.rec (motive := fun _ => Bool) false y x
theorem also_eq (x y : Bool) : also x y = (x && y) := by cases x <;> rfl
theorem also_iff {x y : Bool} : also x y = true ↔ x = true ∧ y = true := by rw [also_eq]; simp
/-- the first number of the path from lo on, len of them, the others from 1 to 99 -/
noncomputable def allR (f : Nat → Bool) (lo len : Nat) : Bool := Nat.rec (motive := fun _ => Bool) true (fun j ih => also (f (Nat.add lo j)) ih) len
theorem allR_at {f : Nat → Bool} {lo : Nat} : ∀ {len : Nat}, allR f lo len = true → ∀ c, lo ≤ c → c < lo + len → f c = true
  | 0, _, c, h1, h2 => by omega
  | len + 1, h, c, h1, h2 => by
    obtain ⟨h3, h4⟩ := also_iff.1 (show also (f (lo + len)) (allR f lo len) = true from h)
    by_cases e : c = lo + len
    · rw [e]; exact h3
    · exact allR_at h4 c h1 (by omega)
noncomputable def chkR (sd : List Nat) (a n lo len : Nat) : Bool := allR (fun c => chk sd a n [⟨c, 0⟩, ⟨1, 1⟩, ⟨1, 2⟩]) lo len
theorem chkR_at {sd : List Nat} {a n lo len : Nat} (h : chkR sd a n lo len = true) (c : Nat) (h1 : lo ≤ c) (h2 : c < lo + len) : chk sd a n [⟨c, 0⟩, ⟨1, 1⟩, ⟨1, 2⟩] = true := by
  unfold chkR at h
  exact allR_at h c h1 h2
/-- the other great batches, and the small ones -/
noncomputable def chkO (sd : List Nat) (a n : Nat) : Bool :=
  also (chk sd a n [⟨1, 1⟩, ⟨0, 0⟩, ⟨1, 2⟩]) (also (chk sd a n [⟨1, 1⟩, ⟨1, 2⟩, ⟨0, 0⟩]) (also (chk sd a n [⟨1, 1⟩, ⟨1, 2⟩])
  (also (chkS sd a n [⟨1, 2⟩, ⟨0, 0⟩, ⟨0, 0⟩]) (also (chkS sd a n [⟨0, 0⟩, ⟨1, 2⟩, ⟨0, 0⟩]) (also (chkS sd a n [⟨0, 0⟩, ⟨0, 0⟩, ⟨1, 2⟩]) (also (chkS sd a n [⟨0, 0⟩, ⟨0, 0⟩, ⟨0, 0⟩])
  (also (chkS sd a n [⟨1, 2⟩, ⟨0, 0⟩]) (also (chkS sd a n [⟨0, 0⟩, ⟨1, 2⟩]) (also (chkS sd a n [⟨0, 0⟩, ⟨0, 0⟩]) (also (chkS sd a n [⟨1, 2⟩]) (also (chkS sd a n [⟨0, 0⟩]) (chkS sd a n []))))))))))))
/-- ALL BATCHES of a seed and a node -/
def OkB (sd : List Nat) (a n : Nat) : Prop := (∀ c, c < 100 → chk sd a n [⟨c, 0⟩, ⟨1, 1⟩, ⟨1, 2⟩] = true) ∧ chkO sd a n = true
/-- the batches one by one -/
def UpC (f : Nat → Bool) (m : Nat) : Prop := ∀ c, c < m → f c = true
theorem upC_zero (f : Nat → Bool) : UpC f 0 := fun c hc => absurd hc (Nat.not_lt_zero c)
theorem upC_step {f : Nat → Bool} {m : Nat} (h : UpC f m) (h1 : f m = true) : UpC f (m + 1) := fun c hc => by
  by_cases e : c = m
  · rw [e]; exact h1
  · exact h c (by omega)
theorem okB_up {sd : List Nat} {a n : Nat} (f : UpC (fun c => chk sd a n [⟨c, 0⟩, ⟨1, 1⟩, ⟨1, 2⟩]) 100) (h : chkO sd a n = true) : OkB sd a n := ⟨f, h⟩
theorem okB_of {sd : List Nat} {a n : Nat} (f : ∀ k, k < 25 → chkR sd a n (4 * k) 4 = true) (h : chkO sd a n = true) : OkB sd a n :=
  ⟨fun c hc => chkR_at (f (c / 4) (by omega)) c (by omega) (by omega), h⟩
section
variable {sd : List Nat} {a n : Nat} {s : ByteArray}
theorem great_word (hs : s.data.toList = sd.map byt) (hsb : ∀ x ∈ sd, x < 256) (h1 : sd.length < 20) (ha : a < 256) (hn : n < 256) (h4 : ∀ ps : List BS, ps.length ≤ 3 → lI ps a n < 256 ∧ lM sd ps a n ≤ 55) {ps : List BS} (hl : ps.length ≤ 3) (hp : ∀ p ∈ ps, p.c < 100 ∧ (p.k = 0 ∨ p.c = 1))
    (h : chk sd a n ps = true) : ∀ i, i < 9801 → wordN s (pathI ps vv i ++ [(a : Int), (n : Int)]) 0 < 281474976645120 := by
  refine batch_sound (nl := 9801) VC_pk (fun _ => rfl) hs hsb (by omega) (by omega) (h4 ps hl).1 (h4 ps hl).2 ha hn (fun i hi p hp' _ => ?_) ?_
  · obtain ⟨h5, h6⟩ := hp p hp'
    have hv : vv p.k i < 99 ∨ p.k = 0 := by
      match hk : p.k with
      | 0 => right; rfl
      | 1 => left; show i / 99 < 99; omega
      | k + 2 => left; show i % 99 < 99; omega
    unfold bsV
    rcases hv with hv | hv
    · omega
    · rw [hv]
      show p.c + 0 < 256
      omega
  · rw [one_pk, msk_pk]
    unfold chk at h
    exact h
theorem small_word (hs : s.data.toList = sd.map byt) (hsb : ∀ x ∈ sd, x < 256) (h1 : sd.length < 20) (ha : a < 256) (hn : n < 256) (h4 : ∀ ps : List BS, ps.length ≤ 3 → lI ps a n < 256 ∧ lM sd ps a n ≤ 55) {ps : List BS} (hl : ps.length ≤ 3) (hp : ∀ p ∈ ps, p.c < 100 ∧ (p.k = 0 ∨ p.c = 1))
    (h : chkS sd a n ps = true) : ∀ i, i < 99 → wordN s (pathI ps vv i ++ [(a : Int), (n : Int)]) 0 < 281474976645120 := by
  refine batch_sound (nl := 99) VS_pk (fun _ => rfl) hs hsb (by omega) (by omega) (h4 ps hl).1 (h4 ps hl).2 ha hn (fun i hi p hp' _ => ?_) ?_
  · obtain ⟨h5, h6⟩ := hp p hp'
    have hv : vv p.k i < 99 ∨ p.k = 0 := by
      match hk : p.k with
      | 0 => right; rfl
      | 1 => left; show i / 99 < 99; omega
      | k + 2 => left; show i % 99 < 99; omega
    unfold bsV
    rcases hv with hv | hv
    · omega
    · rw [hv]
      show p.c + 0 < 256
      omega
  · rw [oneS_pk, mskS_pk]
    unfold chkS at h
    exact h
theorem l1_le (x : Nat) : l1 x ≤ 2 := by
  cases x with
  | zero => exact Nat.le_succ 1
  | succ x => exact Nat.le_refl 2
theorem lPs_le : ∀ ps : List BS, lPs ps ≤ 2 * ps.length
  | [] => Nat.le_refl _
  | p :: ps => by
    have h1 := lPs_le ps
    have h2 := l1_le p.c
    show l1 p.c + lPs ps ≤ 2 * (ps.length + 1)
    omega
/-- EVERY WORD of a path of at most three numbers from 0 to 99 -/
theorem okB_word (hs : s.data.toList = sd.map byt) (hsb : ∀ x ∈ sd, x < 256) (h1 : sd.length < 20) (ha : a < 256) (hn : n < 256) (ok : OkB sd a n) (p : List Int) (hl : p.length ≤ 3) (hp : ∀ y ∈ p, 0 ≤ y ∧ y < 100) :
    wordN s (p ++ [(a : Int), (n : Int)]) 0 < 281474976645120 := by
  have h4 : ∀ ps : List BS, ps.length ≤ 3 → lI ps a n < 256 ∧ lM sd ps a n ≤ 55 := fun ps hps => by
    have e1 := l1_le (ps.length + 3)
    have e2 := lPs_le ps
    have e3 := l1_le a
    have e4 := l1_le n
    have e5 : lI ps a n = (l1 (ps.length + 3) + lPs ps) + ((l1 a + l1 n) + 1) := rfl
    have e6 := l1_le (lI ps a n)
    have e7 := l1_le sd.length
    have e8 : lM sd ps a n = ((1 + l1 sd.length) + sd.length) + (l1 (lI ps a n) + lI ps a n) := rfl
    omega
  obtain ⟨okc, oko⟩ := ok
  unfold chkO at oko
  simp only [also_iff] at oko
  obtain ⟨o1, o2, o3, o4, o5, o6, o7, o8, o9, o10, o11, o12, o13⟩ := oko
  have G := fun (ps : List BS) (hl : ps.length ≤ 3) hp h i hi => great_word (s := s) hs hsb h1 ha hn h4 (ps := ps) hl hp h i hi
  have S := fun (ps : List BS) (hl : ps.length ≤ 3) hp h i hi => small_word (s := s) hs hsb h1 ha hn h4 (ps := ps) hl hp h i hi
  -- the numbers as naturals
  have nat : ∀ y ∈ p, ∃ z : Nat, y = (z : Int) ∧ z < 100 := fun y hy => ⟨y.toNat, by have := hp y hy; omega, by have := hp y hy; omega⟩
  match p, hl, nat with
  | [], _, _ =>
    exact S [] (by simp) (by simp) o13 0 (by omega)
  | [X], _, nat =>
    obtain ⟨x, rfl, hx⟩ := nat X (by simp)
    by_cases x0 : x = 0
    · subst x0
      exact S [⟨0, 0⟩] (by simp) (by simp) o12 0 (by omega)
    · have := S [⟨1, 2⟩] (by simp) (by simp) o11 (x - 1) (by omega)
      have e : pathI [⟨1, 2⟩] vv (x - 1) = [(x : Int)] := by simp [pathI, bsV, vv]; omega
      rw [e] at this
      exact this
  | [X, Y], _, nat =>
    obtain ⟨x, rfl, hx⟩ := nat X (by simp)
    obtain ⟨y, rfl, hy⟩ := nat Y (by simp)
    by_cases x0 : x = 0
    · subst x0
      by_cases y0 : y = 0
      · subst y0
        exact S [⟨0, 0⟩, ⟨0, 0⟩] (by simp) (by simp) o10 0 (by omega)
      · have := S [⟨0, 0⟩, ⟨1, 2⟩] (by simp) (by simp) o9 (y - 1) (by omega)
        have e : pathI [⟨0, 0⟩, ⟨1, 2⟩] vv (y - 1) = [((0 : Nat) : Int), (y : Int)] := by simp [pathI, bsV, vv]; omega
        rw [e] at this
        exact this
    · by_cases y0 : y = 0
      · subst y0
        have := S [⟨1, 2⟩, ⟨0, 0⟩] (by simp) (by simp) o8 (x - 1) (by omega)
        have e : pathI [⟨1, 2⟩, ⟨0, 0⟩] vv (x - 1) = [(x : Int), ((0 : Nat) : Int)] := by simp [pathI, bsV, vv]; omega
        rw [e] at this
        exact this
      · have := G [⟨1, 1⟩, ⟨1, 2⟩] (by simp) (by simp) o3 ((x - 1) * 99 + (y - 1)) (by omega)
        have e : pathI [⟨1, 1⟩, ⟨1, 2⟩] vv ((x - 1) * 99 + (y - 1)) = [(x : Int), (y : Int)] := by
          have e1 : ((x - 1) * 99 + (y - 1)) / 99 = x - 1 := by omega
          have e2 : ((x - 1) * 99 + (y - 1)) % 99 = y - 1 := by omega
          simp [pathI, bsV, vv, e1, e2]
          omega
        rw [e] at this
        exact this
  | [X, Y, Z], _, nat =>
    obtain ⟨x, rfl, hx⟩ := nat X (by simp)
    obtain ⟨y, rfl, hy⟩ := nat Y (by simp)
    obtain ⟨z, rfl, hz⟩ := nat Z (by simp)
    by_cases y0 : y = 0
    · subst y0
      by_cases z0 : z = 0
      · subst z0
        by_cases x0 : x = 0
        · subst x0
          exact S [⟨0, 0⟩, ⟨0, 0⟩, ⟨0, 0⟩] (by simp) (by simp) o7 0 (by omega)
        · have := S [⟨1, 2⟩, ⟨0, 0⟩, ⟨0, 0⟩] (by simp) (by simp) o4 (x - 1) (by omega)
          have e : pathI [⟨1, 2⟩, ⟨0, 0⟩, ⟨0, 0⟩] vv (x - 1) = [(x : Int), ((0 : Nat) : Int), ((0 : Nat) : Int)] := by simp [pathI, bsV, vv]; omega
          rw [e] at this
          exact this
      · by_cases x0 : x = 0
        · subst x0
          have := S [⟨0, 0⟩, ⟨0, 0⟩, ⟨1, 2⟩] (by simp) (by simp) o6 (z - 1) (by omega)
          have e : pathI [⟨0, 0⟩, ⟨0, 0⟩, ⟨1, 2⟩] vv (z - 1) = [((0 : Nat) : Int), ((0 : Nat) : Int), (z : Int)] := by simp [pathI, bsV, vv]; omega
          rw [e] at this
          exact this
        · have := G [⟨1, 1⟩, ⟨0, 0⟩, ⟨1, 2⟩] (by simp) (by simp) o1 ((x - 1) * 99 + (z - 1)) (by omega)
          have e : pathI [⟨1, 1⟩, ⟨0, 0⟩, ⟨1, 2⟩] vv ((x - 1) * 99 + (z - 1)) = [(x : Int), ((0 : Nat) : Int), (z : Int)] := by
            have e1 : ((x - 1) * 99 + (z - 1)) / 99 = x - 1 := by omega
            have e2 : ((x - 1) * 99 + (z - 1)) % 99 = z - 1 := by omega
            simp [pathI, bsV, vv, e1, e2]
            omega
          rw [e] at this
          exact this
    · by_cases z0 : z = 0
      · subst z0
        by_cases x0 : x = 0
        · subst x0
          have := S [⟨0, 0⟩, ⟨1, 2⟩, ⟨0, 0⟩] (by simp) (by simp) o5 (y - 1) (by omega)
          have e : pathI [⟨0, 0⟩, ⟨1, 2⟩, ⟨0, 0⟩] vv (y - 1) = [((0 : Nat) : Int), (y : Int), ((0 : Nat) : Int)] := by simp [pathI, bsV, vv]; omega
          rw [e] at this
          exact this
        · have := G [⟨1, 1⟩, ⟨1, 2⟩, ⟨0, 0⟩] (by simp) (by simp) o2 ((x - 1) * 99 + (y - 1)) (by omega)
          have e : pathI [⟨1, 1⟩, ⟨1, 2⟩, ⟨0, 0⟩] vv ((x - 1) * 99 + (y - 1)) = [(x : Int), (y : Int), ((0 : Nat) : Int)] := by
            have e1 : ((x - 1) * 99 + (y - 1)) / 99 = x - 1 := by omega
            have e2 : ((x - 1) * 99 + (y - 1)) % 99 = y - 1 := by omega
            simp [pathI, bsV, vv, e1, e2]
            omega
          rw [e] at this
          exact this
      · have := G [⟨x, 0⟩, ⟨1, 1⟩, ⟨1, 2⟩] (by simp) (by simp [hx]) (okc x hx) ((y - 1) * 99 + (z - 1)) (by omega)
        have e : pathI [⟨x, 0⟩, ⟨1, 1⟩, ⟨1, 2⟩] vv ((y - 1) * 99 + (z - 1)) = [(x : Int), (y : Int), (z : Int)] := by
          have e1 : ((y - 1) * 99 + (z - 1)) / 99 = y - 1 := by omega
          have e2 : ((y - 1) * 99 + (z - 1)) % 99 = z - 1 := by omega
          by_cases x0 : x = 0
          · subst x0
            simp [pathI, bsV, vv, e1, e2]
            omega
          · simp [pathI, bsV, vv, e1, e2, x0]
            omega
        rw [e] at this
        exact this
  | _ :: _ :: _ :: _ :: _, hl, _ => simp at hl
end
end Go.Proofs.YtkchalnohkfhbaaDoor
