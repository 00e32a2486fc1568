/- The reference's GetInts, for any bytes, returns what decL says: the decoded integers, or the error. Conditions: at most 100000 bytes. -/
import Derived.Test.YtbekkndkdfmijaaWj
namespace Go.Proofs.Ytbekkndkdfmijaa
open Go.RowKit

/-- k elements, one after the other -/
def decN {α : Type} (f : List UInt8 → Except Nat (α × Nat)) (b : List UInt8) : Nat → Nat → Except Nat (List α × Nat)
  | 0, at_ => .ok ([], at_)
  | k + 1, at_ => match f (b.drop at_) with
    | .error e => .error e
    | .ok (x, u) => match decN f b k (at_ + u) with
      | .error e => .error e
      | .ok (r, z) => .ok (x :: r, z)
def pre {α : Type} (acc : List α) (r : Except Nat (List α × Nat)) : Except Nat (List α × Nat) :=
  match r with
  | .error e => .error e
  | .ok (r, z) => .ok (acc ++ r, z)
theorem pre_nil {α : Type} (r : Except Nat (List α × Nat)) : pre [] r = r := by cases r <;> rfl
theorem decN_error {α : Type} {f : List UInt8 → Except Nat (α × Nat)} {b : List UInt8} {k at_ e : Nat} {acc : List α} (h : f (b.drop at_) = .error e) : pre acc (decN f b (k + 1) at_) = .error e := by
  unfold decN; rw [h]; rfl
theorem decN_step {α : Type} {f : List UInt8 → Except Nat (α × Nat)} {b : List UInt8} {k at_ u : Nat} {x : α} {acc : List α} (h : f (b.drop at_) = .ok (x, u)) : pre acc (decN f b (k + 1) at_) = pre (acc ++ [x]) (decN f b k (at_ + u)) := by
  conv => lhs; unfold decN
  rw [h]
  dsimp only
  cases decN f b k (at_ + u) with
  | error e => rfl
  | ok p => obtain ⟨r, z⟩ := p; simp [pre]
/-- a list: its length, then its elements -/
def decL {α : Type} (f : List UInt8 → Except Nat (α × Nat)) (b : List UInt8) : Except Nat (List α × Nat) :=
  match decC 1 b with
  | .error e => .error e
  | .ok (n, u) => decN f b n u
theorem decL_err {α : Type} {f : List UInt8 → Except Nat (α × Nat)} {b : List UInt8} {e : Nat} (h : decC 1 b = .error e) : decL f b = .error e := by unfold decL; rw [h]
theorem decL_ok {α : Type} {f : List UInt8 → Except Nat (α × Nat)} {b : List UInt8} {n u : Nat} (h : decC 1 b = .ok (n, u)) : decL f b = decN f b n u := by unfold decL; rw [h]
/-- what the functions that decode a list answer -/
def Got {α : Type} (D : Except Nat (List α × Nat)) (V : List α → List Value) (ty : TypeId) (w : World) (e : Ending) (W' : World) : Prop :=
  (∃ (v : Value) (z q : Nat) (r : List α), e = .returned (.tuple #[v, .int .i64 (z : Int), .int .i64 (q : Int)]) ∧ W'.ownsRow w.heap.size ty 1 v r.length (V r) ∧ (V r).length = r.length ∧ D = (if q = 0 then .ok (r, z) else .error q) ∧ (q ≠ 0 → r = [] ∧ z = 0)) ∧ Below w.heap.size w W'

theorem reads_drop {w : World} {B n : Nat} {ad : Addr} {l : List UInt8} (hl : Reads w B 1 (some ad) n (bytesV l)) (u : Nat) (hu : u < n) : Reads w B 1 (some (ad.add u)) (n - u) (bytesV (l.drop u)) := by
  obtain ⟨ad', e, h1, h2⟩ := hl.2 (by omega)
  cases e
  refine ⟨by rw [bytesV_length, List.length_drop, hl.byte_len, Nat.mul_one], fun _ => ⟨_, rfl, by rw [block_add]; exact h1, fun j x hx => ?_⟩⟩
  rw [add_add']
  refine h2 _ _ ?_
  rw [bytesV_get] at hx ⊢
  rwa [List.getElem?_drop] at hx
theorem reads_none (w : World) (B : Nat) (A : Option Addr) (l : List UInt8) (u : Nat) (hu : l.length ≤ u) : Reads w B 1 A 0 (bytesV (l.drop u)) := by
  rw [List.drop_of_length_le hu]; exact Reads.nil_ _ _ _ _

theorem info_int : ∃ i, Try.prog.info? 3 = some i ∧ i.zero = some (.int .i64 0) ∧ i.size = 1 ∧ i.bytes = 8 := ⟨_, rfl, rfl, rfl, rfl⟩

set_option maxRecDepth 100000 in
set_option maxHeartbeats 1000000 in
theorem rGetInts_any (A : Option Addr) (n c : Nat) (l : List UInt8) (w : World) (hl : Reads w w.heap.size 1 A n (bytesV l)) (hn : n ≤ 100000) (hnc : n ≤ c) :
    Calls Try.prog 49 #[.slice A n c] w (Got (decL decI l) ints 3 w) := by
  have el := hl.byte_len
  cases hD : decC 1 l with
  | error q =>
    have hq : (q : Int) ≠ 0 := by rcases decC_err hD with h | h <;> omega
    go_enter Try.func49, Try.ntmps49
    go_wp2_with fail
    refine (rCount_any A n c 1 l w hl hn hnc (by omega) (by omega)).mono ?_
    rintro e w1 ⟨⟨x, y, z, rfl, h1, -⟩, hb⟩
    obtain rfl := h1 q hD
    go_wp2_with fail
    go_ret3
    exact ⟨⟨_, 0, q, [], rfl, World.ownsRow_nil _ _ _ _, rfl, by rw [decL_err hD, if_neg (by omega)], fun _ => ⟨rfl, rfl⟩⟩, hb⟩
  | ok p =>
    obtain ⟨m, u⟩ := p
    obtain ⟨hI, hu⟩ := decC_ok hD (by omega)
    have hu0 : 0 < u := by have := decI_canon l _ _ hI; omega
    have hA : ∃ ad, A = some ad := by obtain ⟨ad, h, -⟩ := hl.byte_at (k := 0) (by omega); exact ⟨ad, h⟩
    obtain ⟨ad, rfl⟩ := hA
    obtain ⟨i0, hi, hz0, hz1, hz2⟩ := info_int
    have hdl := decL_ok (f := decI) hD
    obtain ⟨R, hR⟩ : ∃ R, R = decL decI l := ⟨_, rfl⟩
    rw [← hR] at hdl ⊢
    have HDL := Lib.hid hdl
    clear hdl hR
    go_enter Try.func49, Try.ntmps49
    go_wp2_with fail
    refine (rCount_any (some ad) n c 1 l w hl hn hnc (by omega) (by omega)).mono ?_
    rintro e w1 ⟨⟨x, y, z, rfl, -, h2⟩, hb⟩
    obtain ⟨rfl, rfl, rfl⟩ := h2 (m, u) hD
    dsimp only
    clear h2
    go_wp2_with fail
    go_loopw [6, 8, 9] (fun a v i wr => ∃ (j p : Nat) (acc : List Int), j ≤ m ∧ i = .int .i64 j ∧ a = .int .i64 p ∧ p ≤ n ∧ acc.length = j ∧ Hid (R = pre acc (decN decI l (m - j) p)) ∧ wr.ownsRow w.heap.size 3 1 v acc.length (ints acc) ∧ Below w.heap.size w wr) (fun _ _ i _ => m - (intOf i).toNat)
    case atStart => exact ⟨0, u, [], by omega, rfl, rfl, by omega, rfl, Lib.hid (by rw [pre_nil]; exact HDL.out), World.ownsRow_nil _ _ _ _, hb⟩
    case round =>
      obtain ⟨j, q, acc, hj, rfl, rfl, hq, hlen, HI, hown, hnx⟩ := hrel
      obtain ⟨wo, rfl⟩ : ∃ wo : World, wo = wr := ⟨_, rfl⟩
      have HL := Lib.hid hlen
      clear hlen
      by_cases hlt : j < m
      · have hji : (j : Int) < (m : Int) := by omega
        have HI2 : Hid (R = pre acc (decN decI l ((m - j - 1) + 1) q)) := by rw [show m - j - 1 + 1 = m - j by omega]; exact HI
        have b4 : (q : Int) ≤ (n : Int) := by omega
        have b5 : (q : Int) ≤ (c : Int) := by omega
        by_cases hcq : c = q
        · have hE : decI (l.drop q) = .error 3 := by rw [List.drop_of_length_le (by omega)]; rfl
          have hnq : n = q := by omega
          go_wp2_with fail
          refine (rGetInt_any (some ad) 0 0 (l.drop q) wo (reads_none _ _ _ _ _ (by omega)) (by omega) (by omega)).mono ?_
          rintro e w2 ⟨rfl, hb2⟩
          rw [hE]
          simp only [retI]
          go_wp2_with fail
          go_ret3
          exact ⟨⟨_, 0, 3, [], rfl, World.ownsRow_nil _ _ _ _, rfl, by rw [HI2.out, decN_error hE, if_neg (by omega)], fun _ => ⟨rfl, rfl⟩⟩, hnx.trans (hb2.mono hnx.size)⟩
        · have hcq2 : (c : Int) ≠ (q : Int) := by omega
          have hrd : Reads wo w.heap.size 1 (some (ad.add q)) (n - q) (bytesV (l.drop q)) := by
            by_cases hnq : n = q
            · rw [show n - q = 0 by omega]; exact reads_none _ _ _ _ _ (by omega)
            · exact (reads_drop hl q (by omega)).below hnx
          cases hE : decI (l.drop q) with
          | error t =>
            have ht : (t : Int) ≠ 0 := by rcases decI_err hE with h | h <;> omega
            go_wp2_with fail
            refine (rGetInt_any (some (ad.add q)) (n - q) (c - q) (l.drop q) wo (hrd.more hnx.size) (by omega) (by omega)).mono ?_
            rintro e w2 ⟨rfl, hb2⟩
            rw [hE]
            simp only [retI]
            go_wp2_with fail
            go_ret3
            exact ⟨⟨_, 0, t, [], rfl, World.ownsRow_nil _ _ _ _, rfl, by rw [HI2.out, decN_error hE, if_neg (by omega)], fun _ => ⟨rfl, rfl⟩⟩, hnx.trans (hb2.mono hnx.size)⟩
          | ok p =>
            obtain ⟨x, v⟩ := p
            go_wp2_with fail
            refine (rGetInt_any (some (ad.add q)) (n - q) (c - q) (l.drop q) wo (hrd.more hnx.size) (by omega) (by omega)).mono ?_
            rintro e w2 ⟨rfl, hb2⟩
            rw [hE]
            simp only [retI]
            have hown1 := own_below hown hb2
            have hab : acc.length ≤ 100000 := by have := HL.out; omega
            obtain ⟨-, -, -, hv, -⟩ := decI_canon _ _ _ hE
            rw [List.length_drop] at hv
            have b6 : (q : Int) + (v : Int) ≤ (n : Int) := by omega
            have hsz := Nat.le_trans hnx.size hb2.size
            clear hv
            go_wp2_with (at_builtin; refine wpList_append_own _ rfl _ _ 23 rfl w.heap.size 3 i0 (.int .i64 0) 1 8 Try.underlying23 hi hz0 hz1 hz2 rfl (by decide) _ _ _ rfl (hown1.alloc _) ⟨w2.heap.size, 0, none⟩ 1 1 [.int .i64 x] rfl rfl (cell_one_new _ _ _) (by simp [Value.oneCell']) (by unfold maxLen; omega) (by omega) (by simp; omega) ?_; intro v' w3 hown' hgrow _)
            go_roundw
            case rel =>
              refine ⟨j + 1, q + v, acc ++ [x], by omega, by go_num, by go_num, by omega, by rw [List.length_append, HL.out]; rfl, Lib.hid ?_, ?_, ((hnx.trans (hb2.mono hnx.size)).alloc hsz _).grown hgrow (by simp; omega) (fun b e => (hown1.lt b e).1)⟩
              · rw [HI2.out, decN_step hE, show m - (j + 1) = m - j - 1 by omega]
              · rw [List.length_append, ints_snoc]; exact hown'
            case measure => simp [intOf]; omega
      · obtain rfl : j = m := by omega
        go_wp2_with fail
        go_ret3
        exact ⟨⟨_, q, 0, acc, rfl, hown, ints_length _, by rw [HI.out, Nat.sub_self, if_pos rfl]; simp [decN, pre], fun h => absurd rfl h⟩, hnx⟩
end Go.Proofs.Ytbekkndkdfmijaa
