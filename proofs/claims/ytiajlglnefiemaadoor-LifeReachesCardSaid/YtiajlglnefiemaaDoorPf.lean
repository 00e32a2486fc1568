/- Plain laws of places: they are a permutation, their sum. Then the walks of Side and of lives. Conditions as in the texts before. -/
import Derived.Test.YtiajlglnefiemaaDoorPd
import Derived.Test.YtiajlglnefiemaaDoorPe
import Derived.BigQuiet
set_option linter.unusedSimpArgs false
set_option linter.unusedVariables false
namespace Go.Proofs.YtiajlglnefiemaaDoor
open Go.RowKit

/-- the sum of the first k -/
def sumTo (f : Nat → Nat) : Nat → Nat
  | 0 => 0
  | k + 1 => sumTo f k + f k
theorem sumTo_same {f g : Nat → Nat} : ∀ k, (∀ i, i < k → g i = f i) → sumTo g k = sumTo f k
  | 0, _ => rfl
  | k + 1, h => by rw [sumTo, sumTo, sumTo_same k (fun i hi => h i (by omega)), h k (by omega)]
theorem sumTo_swap {f g : Nat → Nat} {i0 : Nat} (hne : ∀ i, i ≠ i0 → g i = f i) : ∀ k, i0 < k → sumTo g k + f i0 = sumTo f k + g i0
  | 0, h => absurd h (by omega)
  | k + 1, h => by
    rw [sumTo, sumTo]
    by_cases e : i0 = k
    · subst e
      rw [sumTo_same i0 (fun i hi => hne i (by omega))]
      omega
    · have := sumTo_swap hne k (by omega)
      rw [hne k (Ne.symm e)]
      omega
theorem sumTo_le {f : Nat → Nat} {N : Nat} : ∀ k, (∀ i, i < k → f i < N) → sumTo f k ≤ k * N
  | 0, _ => by simp [sumTo]
  | k + 1, h => by
    have a := sumTo_le k (fun i hi => h i (by omega))
    have b := h k (by omega)
    rw [sumTo, Nat.add_mul]
    omega
theorem sum_perm : ∀ (N : Nat) (f : Nat → Nat), (∀ i, i < N → f i < N) → (∀ i j, i < N → j < N → f i = f j → i = j) → 2 * sumTo f N + N = N * N
  | 0, f, _, _ => rfl
  | N + 1, f, hlt, hinj => by
    have hex : ∃ i0, i0 < N + 1 ∧ f i0 = N := by
      by_cases h : ∃ i0, i0 < N + 1 ∧ f i0 = N
      · exact h
      · obtain ⟨i, j, h1, h2, h3⟩ := pigeon N f (fun i hi => by
          have a := hlt i (by omega)
          have b : f i ≠ N := fun e => h ⟨i, by omega, e⟩
          omega)
        exact absurd (hinj i j (by omega) (by omega) h3) (by omega)
    obtain ⟨i0, h0, h1⟩ := hex
    have e2 : (N + 1) * (N + 1) = N * N + 2 * N + 1 := by rw [Nat.add_mul, Nat.mul_add]; omega
    by_cases e : i0 = N
    · subst e
      have ih := sum_perm i0 f (fun i hi => by
        have a := hlt i (by omega)
        have b : f i ≠ i0 := fun e => absurd (hinj i i0 (by omega) (by omega) (by omega)) (by omega)
        omega) (fun i j hi hj h => hinj i j (by omega) (by omega) h)
      rw [sumTo]
      omega
    · have hN : f N ≠ N := fun c => absurd (hinj i0 N (by omega) (by omega) (by omega)) e
      have hNl := hlt N (by omega)
      have ih := sum_perm N (fun i => if i = i0 then f N else f i) (fun i hi => by
        split
        · omega
        · rename_i c
          have a := hlt i (by omega)
          have b : f i ≠ N := fun k => absurd (hinj i i0 (by omega) (by omega) (by omega)) c
          omega) (fun i j hi hj h => by
        split at h <;> split at h
        · omega
        · exact absurd (hinj N j (by omega) (by omega) h) (by omega)
        · exact absurd (hinj i N (by omega) (by omega) h) (by omega)
        · exact hinj i j (by omega) (by omega) h)
      have sw := sumTo_swap (f := f) (g := fun i => if i = i0 then f N else f i) (i0 := i0) (fun i hi => if_neg hi) N (by omega)
      simp only [if_pos] at sw
      rw [sumTo]
      omega
section
variable (s : ByteArray) (l : List Int) {N : Nat}
/-- the mixing of N numbers -/
def mixN (N : Nat) : Nat → Nat := mixF (netF s l N) (2 ^ sideE N)
def backN (N : Nat) : Nat → Nat := backF (netF s l N) (2 ^ sideE N)
theorem mixN_lt (N x : Nat) (h : x < 2 ^ sideE N * 2 ^ sideE N) : mixN s l N x < 2 ^ sideE N * 2 ^ sideE N := mixF_lt (rnd_lt s l _) h
theorem backN_lt (N x : Nat) (h : x < 2 ^ sideE N * 2 ^ sideE N) : backN s l N x < 2 ^ sideE N * 2 ^ sideE N := backF_lt (rnd_lt s l _) h
theorem backN_mix (N x : Nat) (h : x < 2 ^ sideE N * 2 ^ sideE N) : backN s l N (mixN s l N x) = x := back_mix (rnd_lt s l _) h
theorem mixN_back (N x : Nat) (h : x < 2 ^ sideE N * 2 ^ sideE N) : mixN s l N (backN s l N x) = x := mix_back (rnd_lt s l _) h
/-- THE PLACE of x among N -/
noncomputable def placeN (N x : Nat) : Nat := place (mixN s l N) N x
noncomputable def unplaceN (N x : Nat) : Nat := place (backN s l N) N x
theorem allV_eq (N : Nat) : allV s l N = upto (placeN s l N) N := rfl
variable (hN : N ≤ 65536)
include hN
theorem placeN_lt {x : Nat} (h : x < N) : placeN s l N x < N := place_lt (mixN_lt s l N) (backN_mix s l N) (Nat.lt_of_lt_of_le h (sideE_fits hN)) h
theorem unplaceN_lt {x : Nat} (h : x < N) : unplaceN s l N x < N := place_lt (backN_lt s l N) (mixN_back s l N) (Nat.lt_of_lt_of_le h (sideE_fits hN)) h
theorem unplace_place {x : Nat} (h : x < N) : unplaceN s l N (placeN s l N x) = x := place_back (mixN_lt s l N) (backN_mix s l N) (Nat.lt_of_lt_of_le h (sideE_fits hN)) h
theorem placeN_inj {x y : Nat} (hx : x < N) (hy : y < N) (e : placeN s l N x = placeN s l N y) : x = y := by
  rw [← unplace_place s l hN hx, e, unplace_place s l hN hy]
theorem sum_placeN : 2 * sumTo (placeN s l N) N + N = N * N := sum_perm N _ (fun i hi => placeN_lt s l hN hi) (fun i j hi hj e => placeN_inj s l hN hi hj e)
end
theorem upto_get {α : Type} (f : Nat → α) {k i : Nat} (h : i < k) : (upto f k)[i]? = some (f i) := by
  unfold upto
  rw [List.getElem?_map, List.getElem?_range h]
  rfl
theorem intsN_get {l : List Nat} {i x : Nat} (h : l[i]? = some x) : (intsN l)[i]? = some (.int .i64 (x : Int)) := by
  unfold intsN
  rw [ints_get, List.getElem?_map, h]
  rfl
/-- what All hands back reads, place by place -/
theorem own_places {w : World} {base N : Nat} {v : Value} {s : ByteArray} {l : List Int} (h : w.ownsRow base 3 1 v (allV s l N).length (intsN (allV s l N))) :
    ∃ A c, v = .slice A N c ∧ N ≤ c ∧ Reads w w.heap.size 1 A N (intsN (allV s l N)) := by
  rw [allV_length] at h
  obtain ⟨A, c, rfl, hc, -, -⟩ := own_slice h
  exact ⟨A, c, rfl, hc, Reads.of_own h⟩
theorem Reads.place_at {w : World} {B N : Nat} {A : Option Addr} {s : ByteArray} {l : List Int} (h : Reads w B 1 A N (intsN (allV s l N))) {i : Nat} (hi : i < N) :
    ∃ ad, A = some ad ∧ ad.block < B ∧ w.cell? (ad.add i) = some (.int .i64 (placeN s l N i : Int)) := by
  obtain ⟨ad, u, h1, h2, h3, h4⟩ := h.at_ hi
  refine ⟨ad, h1, h2, ?_⟩
  rw [h4, ← h3, intsN_get (allV_eq s l N ▸ upto_get _ hi)]
/-- the same, where there is a place at all -/
theorem own_places1 {w : World} {base N : Nat} {v : Value} {s : ByteArray} {l : List Int} (hN : 0 < N) (h : w.ownsRow base 3 1 v (allV s l N).length (intsN (allV s l N))) :
    ∃ g c, v = .slice (some ⟨g, 0, none⟩) N c ∧ N ≤ c ∧ g < w.heap.size ∧ Reads w w.heap.size 1 (some ⟨g, 0, none⟩) N (intsN (allV s l N)) := by
  rw [allV_length] at h
  obtain ⟨g, cap, hv, -, hlt⟩ := h.form hN
  subst hv
  obtain ⟨A, c, e, hc, -, -⟩ := own_slice h
  injection e with _ _ e
  subst e
  exact ⟨g, cap, rfl, hc, hlt, Reads.of_own h⟩
theorem Reads.place1 {w : World} {B N g : Nat} {s : ByteArray} {l : List Int} (h : Reads w B 1 (some ⟨g, 0, none⟩) N (intsN (allV s l N))) {i : Nat} (hi : i < N) : w.cell? ⟨g, i, none⟩ = some (.int .i64 (placeN s l N i : Int)) := by
  obtain ⟨ad, e, -, hc⟩ := h.place_at hi
  injection e with e
  rw [← e, addr_add0] at hc
  exact hc
theorem atV_eq (s : ByteArray) (n : Nat) (l : List Int) (N i : Int) (h : atE s n N i = 0) : atV s n l N i = placeN s l N.toNat i.toNat := by unfold atV; rw [if_pos h]; rfl
theorem backV_eq (s : ByteArray) (n : Nat) (l : List Int) (N i : Int) (h : atE s n N i = 0) : backV s n l N i = unplaceN s l N.toNat i.toNat := by unfold backV; rw [if_pos h]; rfl
theorem givenE_zero {s : ByteArray} {n : Nat} {N : Int} (h1 : s.size ≤ 32) (h2 : n ≤ 8) (h3 : N ≤ 65536) : givenE s n N = 0 := by unfold givenE; rw [if_neg (by omega)]
theorem atE_zero {s : ByteArray} {n : Nat} {N i : Int} (h1 : s.size ≤ 32) (h2 : n ≤ 8) (h3 : N ≤ 65536) (h4 : 0 ≤ i) (h5 : i < N) : atE s n N i = 0 := by unfold atE; rw [givenE_zero h1 h2 h3, if_pos rfl, if_neg (by omega)]
theorem net_none {s : ByteArray} {w : World} (hs : s.size ≤ 100000) (hK : Consts w) (h0 : 0 < w.heap.size) : Net s none 0 [] w := ⟨Reads.nil_ _ _ _ _, by simp, by omega, hs, hK, h0⟩
theorem net_one {s : ByteArray} {x : Int} {w : World} (hs : s.size ≤ 100000) (hx : I64 x) (hK : Consts w) (h0 : 0 < w.heap.size) : Net s (some ⟨w.heap.size, 0, none⟩) 1 [x] (w.alloc (.cells #[.int .i64 x] 3)) := by
  refine ⟨⟨rfl, fun _ => ⟨_, rfl, by simp, fun j u hu => ?_⟩⟩, by simp [hx], by omega, hs, hK.below (((Below.refl _ w).alloc (Nat.le_refl _) _).mono h0), by simp⟩
  exact cell_one_new w (.int .i64 x) 3 j u hu
theorem below_next {w W W' : World} (h : Below w.heap.size w W) (b : Below W.heap.size W W') : Below w.heap.size w W' := h.trans (b.mono h.size)
set_option maxRecDepth 100000 in
set_option maxHeartbeats 4000000 in
theorem lives_any (w : World) (hK : Consts w) (h0 : 0 < w.heap.size) : Calls Tryd.prog 19 #[] w fun e W' => e = .returned (.bool true) ∧ Below w.heap.size w W' := by
  have q1 : atE ⟨#[115]⟩ 1 1 0 = 0 := atE_zero (by decide) (by decide) (by decide) (by decide) (by decide)
  have q2 : atV ⟨#[115]⟩ 1 [3] 1 0 = 0 := by
    rw [atV_eq _ _ _ _ _ q1]
    have := placeN_lt ⟨#[115]⟩ [3] (N := 1) (by omega) (x := 0) (by omega)
    exact Nat.lt_one_iff.1 this
  go_enter Tryd.func19, Tryd.ntmps19
  go_wp2_with fail
  refine (at_any (net_one (s := ⟨#[115]⟩) (x := 3) (by decide) ⟨by omega, by omega⟩ hK h0) 1 0).mono ?_
  rw [q1, q2]
  rintro E w1 ⟨rfl, b1⟩
  have c1 := below_next ((Below.refl _ w).alloc (Nat.le_refl _) _) b1
  go_wp2_with fail
  refine (all_yes (net_one (s := ⟨#[115]⟩) (x := 3) (by decide) ⟨by omega, by omega⟩ (hK.below (c1.mono h0)) (Nat.lt_of_lt_of_le h0 c1.size)) 2 (givenE_zero (by decide) (by decide) (by decide))).mono ?_
  rintro E w2 ⟨v2, rfl, o2, b2⟩
  obtain ⟨g2, k2, rfl, hk2, -, r2⟩ := own_places1 (by omega) o2
  have c2 := below_next (c1.alloc c1.size _) b2
  clear o2
  go_wp2_with fail
  refine (all_yes (net_none (s := ⟨#[115]⟩) (by decide) (hK.below (c2.mono h0)) (Nat.lt_of_lt_of_le h0 c2.size)) 9 (givenE_zero (by decide) (by decide) (by decide))).mono ?_
  rintro E w3 ⟨v3, rfl, o3, b3⟩
  obtain ⟨A3, k3, rfl, hk3, r3⟩ := own_places o3
  have c3 := below_next c2 b3
  clear o3
  have r2' := (r2.below b3).more b3.size
  have d0 := r2'.place1 (i := 0) (by omega)
  have d1 := r2'.place1 (i := 1) (by omega)
  have hd : (placeN ⟨#[115]⟩ [3] 2 0 = 0 ∧ placeN ⟨#[115]⟩ [3] 2 1 = 1) ∨ (placeN ⟨#[115]⟩ [3] 2 0 = 1 ∧ placeN ⟨#[115]⟩ [3] 2 1 = 0) := by
    have a := placeN_lt ⟨#[115]⟩ [3] (N := 2) (by omega) (x := 0) (by omega)
    have b := placeN_lt ⟨#[115]⟩ [3] (N := 2) (by omega) (x := 1) (by omega)
    have c : placeN ⟨#[115]⟩ [3] 2 0 ≠ placeN ⟨#[115]⟩ [3] 2 1 := fun e => absurd (placeN_inj ⟨#[115]⟩ [3] (N := 2) (by omega) (by omega) (by omega) e) (by omega)
    omega
  have hs := sum_placeN ⟨#[115]⟩ [] (N := 9) (by omega)
  have hsl := fun k (hk : k ≤ 9) => sumTo_le (f := placeN ⟨#[115]⟩ [] 9) (N := 9) k (fun i hi => placeN_lt ⟨#[115]⟩ [] (N := 9) (by omega) (by omega))
  have hp := fun i (hi : i < 9) => r3.place_at hi
  have hpl := fun i (hi : i < 9) => placeN_lt ⟨#[115]⟩ [] (N := 9) (by omega) (x := i) hi
  generalize placeN ⟨#[115]⟩ [3] 2 0 = p0 at *
  generalize placeN ⟨#[115]⟩ [3] 2 1 = p1 at *
  generalize placeN ⟨#[115]⟩ [] 9 = f at *
  have HS := Lib.hid hs
  have HSL := Lib.hid hsl
  have HP := Lib.hid hp
  have HPL := Lib.hid hpl
  have HD := Lib.hid hd
  clear hs hsl hp hpl hd r3 r2 r2'
  go_wp2_with fail
  go_loopw [7, 8] (fun v i wr => ∃ j : Nat, j ≤ 9 ∧ i = .int .i64 (j : Int) ∧ v = .int .i64 (sumTo f j : Int) ∧ wr = w3) (fun _ i _ => (9 - intOf i).toNat)
  case atStart => exact ⟨0, by omega, rfl, rfl, rfl⟩
  case round =>
    obtain ⟨j, hj, rfl, rfl, rfl⟩ := hrel
    by_cases hlt : j < 9
    · obtain ⟨ad, rfl, -, hc⟩ := HP.out j hlt
      have hji : (j : Int) < 9 := by omega
      have hb1 := HSL.out j (by omega)
      have hb2 := HPL.out j hlt
      have hst : sumTo f (j + 1) = sumTo f j + f j := rfl
      have HST := Lib.hid hst
      clear hst
      generalize sumTo f j = S at *
      generalize f j = y at *
      go_wp2_with fail
      go_roundw
      case rel => exact ⟨j + 1, by omega, by go_num, by rw [HST.out]; go_num, trivial⟩
      case measure => simp [intOf]; omega
    · obtain rfl : j = 9 := by omega
      have h36 : sumTo f 9 = 36 := by have := HS.out; omega
      rw [h36]
      rcases HD.out with ⟨rfl, rfl⟩ | ⟨rfl, rfl⟩
      all_goals
        go_wp2_with fail
        go_quiet (fail)
        go_wp2_with fail
        go_ret
        exact ⟨rfl, below_drewN' c3 _⟩
end Go.Proofs.YtiajlglnefiemaaDoor
