/- Plain laws: exclusive or on numbers, a network of four rounds is a permutation, and walking it ends. No condition; nothing of the program stands here. -/
import Derived.Laws.BitsAll
namespace Go.Proofs.YtiajlglnefiemaaDoor

theorem ofInt_i64 (a : Nat) (ha : a < 9223372036854775808) : (BitVec.ofInt 64 (a : Int)).toNat = a := by
  rw [BitVec.ofInt_natCast, BitVec.toNat_ofNat]; exact Nat.mod_eq_of_lt (by omega)
theorem i64_or_nat (a b : Nat) (ha : a < 9223372036854775808) (hb : b < 9223372036854775808) : bits .or .i64 (a : Int) (b : Int) = ((a ||| b : Nat) : Int) := by
  have hx : a ||| b < 2 ^ 63 := Nat.or_lt_two_pow (by omega) (by omega)
  show IntKind.i64.wrap ((BitVec.ofInt 64 (a : Int) ||| BitVec.ofInt 64 (b : Int)).toNat : Int) = _
  rw [BitVec.toNat_or, ofInt_i64 a ha, ofInt_i64 b hb]
  simp [IntKind.wrap, IntKind.signed, IntKind.bits]
  omega
theorem i64_xor_nat (a b : Nat) (ha : a < 9223372036854775808) (hb : b < 9223372036854775808) : bits .xor .i64 (a : Int) (b : Int) = ((a ^^^ b : Nat) : Int) := by
  have hx : a ^^^ b < 2 ^ 63 := Nat.xor_lt_two_pow (by omega) (by omega)
  show IntKind.i64.wrap ((BitVec.ofInt 64 (a : Int) ^^^ BitVec.ofInt 64 (b : Int)).toNat : Int) = _
  rw [BitVec.toNat_xor, ofInt_i64 a ha, ofInt_i64 b hb]
  simp [IntKind.wrap, IntKind.signed, IntKind.bits]
  omega
theorem or_byte63 (M d : Nat) (hM : M < 1099511627776) (hd : d < 256) : bits .or .i64 ((M : Int) * 256) (d : Int) = ((M * 256 + d : Nat) : Int) := by
  have := i64_or_nat (M * 256) d (by omega) (by omega)
  have e : ((M * 256 : Nat) : Int) = (M : Int) * 256 := by omega
  rw [e] at this
  rw [this, Nat.mul_comm M 256, ← Nat.two_pow_add_eq_or_of_lt (i := 8) hd M]

/-- the steps of the network, forward: f k r is the word of round k -/
def stp (f : Nat → Nat → Nat) (k : Nat) (p : Nat × Nat) : Nat × Nat := (p.2, p.1 ^^^ f k p.2)
def fwd (f : Nat → Nat → Nat) : Nat → Nat × Nat → Nat × Nat
  | 0, p => p
  | k + 1, p => stp f k (fwd f k p)
/-- backward -/
def unstp (f : Nat → Nat → Nat) (k : Nat) (p : Nat × Nat) : Nat × Nat := (p.2 ^^^ f k p.1, p.1)
def bwd (f : Nat → Nat → Nat) : Nat → Nat × Nat → Nat × Nat
  | 0, p => p
  | k + 1, p => bwd f k (unstp f k p)
theorem xor_xor (a b : Nat) : (a ^^^ b) ^^^ b = a := by rw [Nat.xor_assoc, Nat.xor_self, Nat.xor_zero]
theorem unstp_stp (f : Nat → Nat → Nat) (k : Nat) (p : Nat × Nat) : unstp f k (stp f k p) = p := by
  obtain ⟨a, b⟩ := p
  simp [unstp, stp, xor_xor]
theorem stp_unstp (f : Nat → Nat → Nat) (k : Nat) (p : Nat × Nat) : stp f k (unstp f k p) = p := by
  obtain ⟨a, b⟩ := p
  simp [unstp, stp, xor_xor]
theorem bwd_fwd (f : Nat → Nat → Nat) : ∀ (k : Nat) (p : Nat × Nat), bwd f k (fwd f k p) = p
  | 0, p => rfl
  | k + 1, p => by rw [fwd, bwd, unstp_stp, bwd_fwd f k p]
theorem fwd_bwd (f : Nat → Nat → Nat) : ∀ (k : Nat) (p : Nat × Nat), fwd f k (bwd f k p) = p
  | 0, p => rfl
  | k + 1, p => by rw [bwd, fwd, fwd_bwd f k, stp_unstp]
/-- numbers less than 2 to the b -/
def Lt2 (b : Nat) (p : Nat × Nat) : Prop := p.1 < 2 ^ b ∧ p.2 < 2 ^ b
theorem stp_lt {f : Nat → Nat → Nat} {b : Nat} (hf : ∀ k r, f k r < 2 ^ b) (k : Nat) {p : Nat × Nat} (h : Lt2 b p) : Lt2 b (stp f k p) := ⟨h.2, Nat.xor_lt_two_pow h.1 (hf _ _)⟩
theorem unstp_lt {f : Nat → Nat → Nat} {b : Nat} (hf : ∀ k r, f k r < 2 ^ b) (k : Nat) {p : Nat × Nat} (h : Lt2 b p) : Lt2 b (unstp f k p) := ⟨Nat.xor_lt_two_pow h.2 (hf _ _), h.1⟩
theorem fwd_lt {f : Nat → Nat → Nat} {b : Nat} (hf : ∀ k r, f k r < 2 ^ b) : ∀ (k : Nat) {p : Nat × Nat}, Lt2 b p → Lt2 b (fwd f k p)
  | 0, _, h => h
  | k + 1, _, h => stp_lt hf k (fwd_lt hf k h)
theorem bwd_lt {f : Nat → Nat → Nat} {b : Nat} (hf : ∀ k r, f k r < 2 ^ b) : ∀ (k : Nat) {p : Nat × Nat}, Lt2 b p → Lt2 b (bwd f k p)
  | 0, _, h => h
  | k + 1, _, h => bwd_lt hf k (unstp_lt hf k h)
/-- a number as two digits of base B, and back -/
def two (B x : Nat) : Nat × Nat := (x / B, x % B)
def one (B : Nat) (p : Nat × Nat) : Nat := p.1 * B + p.2
theorem one_two (B x : Nat) : one B (two B x) = x := by rw [one, two, Nat.mul_comm]; exact Nat.div_add_mod x B
theorem two_one {B : Nat} {p : Nat × Nat} (h : p.2 < B) : two B (one B p) = p := by
  obtain ⟨a, c⟩ := p
  have hB : 0 < B := by dsimp at h; omega
  simp only [one, two] at h ⊢
  rw [Nat.mul_comm, Nat.mul_add_div hB, Nat.mul_add_mod, Nat.div_eq_of_lt h, Nat.mod_eq_of_lt h, Nat.add_zero]
theorem one_lt {B : Nat} {p : Nat × Nat} (h1 : p.1 < B) (h2 : p.2 < B) : one B p < B * B := by
  have : p.1 * B + B ≤ B * B := by have := Nat.mul_le_mul_right B (show p.1 + 1 ≤ B by omega); rw [Nat.add_mul, Nat.one_mul] at this; exact this
  unfold one
  omega
theorem two_lt {B x : Nat} (h : x < B * B) : (two B x).1 < B ∧ (two B x).2 < B := by
  have hB : 0 < B := by rcases Nat.eq_zero_or_pos B with h0 | h0; · subst h0; omega
                        · exact h0
  exact ⟨(Nat.div_lt_iff_lt_mul hB).2 h, Nat.mod_lt _ hB⟩
/-- THE MIXING, and its way back; words f, side B -/
def mixF (f : Nat → Nat → Nat) (B x : Nat) : Nat := one B (fwd f 4 (two B x))
def backF (f : Nat → Nat → Nat) (B x : Nat) : Nat := one B (bwd f 4 (two B x))
section
variable {f : Nat → Nat → Nat} {b : Nat}
theorem mixF_lt (hf : ∀ k r, f k r < 2 ^ b) {x : Nat} (h : x < 2 ^ b * 2 ^ b) : mixF f (2 ^ b) x < 2 ^ b * 2 ^ b :=
  have := fwd_lt hf 4 (p := two (2 ^ b) x) (two_lt h)
  one_lt this.1 this.2
theorem backF_lt (hf : ∀ k r, f k r < 2 ^ b) {x : Nat} (h : x < 2 ^ b * 2 ^ b) : backF f (2 ^ b) x < 2 ^ b * 2 ^ b :=
  have := bwd_lt hf 4 (p := two (2 ^ b) x) (two_lt h)
  one_lt this.1 this.2
theorem back_mix (hf : ∀ k r, f k r < 2 ^ b) {x : Nat} (h : x < 2 ^ b * 2 ^ b) : backF f (2 ^ b) (mixF f (2 ^ b) x) = x := by
  have := fwd_lt hf 4 (p := two (2 ^ b) x) (two_lt h)
  rw [backF, mixF, two_one this.2, bwd_fwd, one_two]
theorem mix_back (hf : ∀ k r, f k r < 2 ^ b) {x : Nat} (h : x < 2 ^ b * 2 ^ b) : mixF f (2 ^ b) (backF f (2 ^ b) x) = x := by
  have := bwd_lt hf 4 (p := two (2 ^ b) x) (two_lt h)
  rw [backF, mixF, two_one this.2, fwd_bwd, one_two]
end
/-- g, k times -/
def iter (g : Nat → Nat) : Nat → Nat → Nat
  | 0, x => x
  | k + 1, x => g (iter g k x)
theorem iter_succ' (g : Nat → Nat) (k x : Nat) : iter g (k + 1) x = iter g k (g x) := by
  induction k with
  | zero => rfl
  | succ k ih => rw [iter, ih, iter]
theorem iter_lt {g : Nat → Nat} {N : Nat} (hg : ∀ x, x < N → g x < N) (k : Nat) {x : Nat} (h : x < N) : iter g k x < N := by
  induction k with
  | zero => exact h
  | succ k ih => exact hg _ ih
theorem iter_cancel {g h : Nat → Nat} {N : Nat} (hg : ∀ x, x < N → g x < N) (hh : ∀ x, x < N → h (g x) = x) {x y : Nat} (hx : x < N) (hy : y < N) : ∀ k, iter g k x = iter g k y → x = y
  | 0, e => e
  | k + 1, e => by
    refine iter_cancel hg hh hx hy k ?_
    have := congrArg h e
    rwa [iter, iter, hh _ (iter_lt hg k hx), hh _ (iter_lt hg k hy)] at this
theorem iter_add (g : Nat → Nat) (a b x : Nat) : iter g (a + b) x = iter g a (iter g b x) := by
  induction a with
  | zero => rw [Nat.zero_add]; rfl
  | succ a ih => rw [Nat.add_right_comm, iter, ih, iter]
/-- a list of more than N numbers less than N has a number twice -/
theorem pigeon : ∀ (N : Nat) (s : Nat → Nat), (∀ i, i ≤ N → s i < N) → ∃ i j, i < j ∧ j ≤ N ∧ s i = s j
  | 0, s, h => absurd (h 0 (Nat.le_refl _)) (by omega)
  | N + 1, s, h => by
    by_cases hm : ∃ i, i ≤ N ∧ s i = s (N + 1)
    · obtain ⟨i, hi, e⟩ := hm
      exact ⟨i, N + 1, by omega, Nat.le_refl _, e⟩
    · have hne : ∀ i, i ≤ N → s i ≠ s (N + 1) := fun i hi e => hm ⟨i, hi, e⟩
      obtain ⟨i, j, h1, h2, h3⟩ := pigeon N (fun i => if s i < s (N + 1) then s i else s i - 1) (fun i hi => by
        have a := h i (by omega)
        have b := h (N + 1) (Nat.le_refl _)
        have c := hne i hi
        split <;> omega)
      refine ⟨i, j, h1, by omega, ?_⟩
      have a := hne i (by omega)
      have b := hne j (by omega)
      split at h3 <;> split at h3 <;> omega
/-- walking leads back: after some k + 1 steps, x comes again -/
theorem comes_back {g h : Nat → Nat} {N : Nat} (hg : ∀ x, x < N → g x < N) (hh : ∀ x, x < N → h (g x) = x) {x : Nat} (hx : x < N) : ∃ k, iter g (k + 1) x = x := by
  obtain ⟨i, j, h1, h2, h3⟩ := pigeon N (fun i => iter g i x) (fun i _ => iter_lt hg i hx)
  refine ⟨j - i - 1, ?_⟩
  have e : j = i + (j - i - 1 + 1) := by omega
  rw [e, iter_add] at h3
  exact (iter_cancel hg hh hx (iter_lt hg _ hx) i h3).symm
/-- the first time that the walk is below n -/
def Walks (g : Nat → Nat) (n x k : Nat) : Prop := iter g (k + 1) x < n ∧ ∀ j, j < k → n ≤ iter g (j + 1) x
theorem walks_ends {g h : Nat → Nat} {N n : Nat} (hg : ∀ x, x < N → g x < N) (hh : ∀ x, x < N → h (g x) = x) {x : Nat} (hx : x < N) (hn : x < n) : ∃ k, Walks g n x k := by
  obtain ⟨k, hk⟩ := comes_back hg hh hx
  have key : ∀ k, iter g (k + 1) x < n → ∃ k', Walks g n x k' := by
    intro k
    induction k using Nat.strongRecOn with
    | ind k ih =>
      intro hk
      by_cases hm : ∃ j, j < k ∧ iter g (j + 1) x < n
      · obtain ⟨j, h1, h2⟩ := hm
        exact ih j h1 h2
      · exact ⟨k, hk, fun j hj => Nat.le_of_not_lt fun h => hm ⟨j, hj, h⟩⟩
  exact key k (by rw [hk]; exact hn)
theorem Walks.uniq {g : Nat → Nat} {n x k k' : Nat} (h : Walks g n x k) (h' : Walks g n x k') : k = k' := by
  rcases Nat.lt_trichotomy k k' with c | c | c
  · exact absurd h.1 (Nat.not_lt.2 (h'.2 k c))
  · exact c
  · exact absurd h'.1 (Nat.not_lt.2 (h.2 k' c))
open Classical in
/-- WHERE THE WALK ENDS -/
noncomputable def place (g : Nat → Nat) (n x : Nat) : Nat := if h : ∃ k, Walks g n x k then iter g (h.choose + 1) x else 0
theorem place_eq {g : Nat → Nat} {n x k : Nat} (h : Walks g n x k) : place g n x = iter g (k + 1) x := by
  have hx : ∃ k, Walks g n x k := ⟨k, h⟩
  rw [place, dif_pos hx, hx.choose_spec.uniq h]
theorem place_lt {g h : Nat → Nat} {N n : Nat} (hg : ∀ x, x < N → g x < N) (hh : ∀ x, x < N → h (g x) = x) {x : Nat} (hx : x < N) (hn : x < n) : place g n x < n := by
  obtain ⟨k, hk⟩ := walks_ends hg hh hx hn
  rw [place_eq hk]
  exact hk.1
/-- the way back along the walk -/
theorem iter_back {g h : Nat → Nat} {N : Nat} (hg : ∀ x, x < N → g x < N) (hh : ∀ x, x < N → h (g x) = x) {x : Nat} (hx : x < N) : ∀ (k j : Nat), j ≤ k → iter h j (iter g k x) = iter g (k - j) x
  | k, 0, _ => rfl
  | k, j + 1, hj => by
    rw [iter, iter_back hg hh hx k j (by omega)]
    have e : k - j = (k - (j + 1)) + 1 := by omega
    rw [e, iter, hh _ (iter_lt hg _ hx)]
theorem place_back {g h : Nat → Nat} {N n : Nat} (hg : ∀ x, x < N → g x < N) (hh : ∀ x, x < N → h (g x) = x) {x : Nat} (hx : x < N) (hn : x < n) : place h n (place g n x) = x := by
  obtain ⟨k, hk⟩ := walks_ends hg hh hx hn
  rw [place_eq hk]
  have hw : Walks h n (iter g (k + 1) x) k := by
    refine ⟨?_, fun j hj => ?_⟩
    · rw [iter_back hg hh hx (k + 1) (k + 1) (Nat.le_refl _), Nat.sub_self]; exact hn
    · rw [iter_back hg hh hx (k + 1) (j + 1) (by omega)]
      have e : k + 1 - (j + 1) = (k - j - 1) + 1 := by omega
      rw [e]
      exact hk.2 _ (by omega)
  rw [place_eq hw, iter_back hg hh hx (k + 1) (k + 1) (Nat.le_refl _), Nat.sub_self]
  rfl
theorem place_inj {g h : Nat → Nat} {N n : Nat} (hg : ∀ x, x < N → g x < N) (hh : ∀ x, x < N → h (g x) = x) {x y : Nat} (hx : x < N) (hy : y < N) (hnx : x < n) (hny : y < n) (e : place g n x = place g n y) : x = y := by
  rw [← place_back hg hh hx hnx, e, place_back hg hh hy hny]
/-- with fewer numbers a place below them is the same -/
theorem place_less {g h : Nat → Nat} {N n m : Nat} (hg : ∀ x, x < N → g x < N) (hh : ∀ x, x < N → h (g x) = x) {x : Nat} (hx : x < N) (hm : m ≤ n) (hxm : x < m) (hp : place g n x < m) : place g m x = place g n x := by
  obtain ⟨k, hk⟩ := walks_ends hg hh hx (show x < n by omega)
  rw [place_eq hk] at hp ⊢
  exact place_eq ⟨hp, fun j hj => Nat.le_trans hm (hk.2 j hj)⟩
end Go.Proofs.YtiajlglnefiemaaDoor
