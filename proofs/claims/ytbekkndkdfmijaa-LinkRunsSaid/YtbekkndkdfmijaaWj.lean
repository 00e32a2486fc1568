/- Both functions GetBytes, for any bytes, return the same decoded bytes or error. Conditions: at most 100000 bytes. -/
import Derived.Test.YtbekkndkdfmijaaWh
import Derived.Laws.IdiomStrings
namespace Go.Proofs.Ytbekkndkdfmijaa
open Go.RowKit

/-- DECODING A BYTE STRING -/
def decB (b : List UInt8) : Except Nat (List UInt8 × Nat) :=
  match decC 1 b with
  | .error e => .error e
  | .ok (n, u) => .ok ((b.drop u).take n, u + n)
def retB (r : Except Nat (List UInt8 × Nat)) : Value :=
  match r with
  | .error e => .tuple #[.string ⟨#[]⟩, .int .i64 0, .int .i64 (e : Int)]
  | .ok (s, u) => .tuple #[.string ⟨s.toArray⟩, .int .i64 (u : Int), .int .i64 0]

theorem byte_cell {w : World} {B n : Nat} {ad : Addr} {l : List UInt8} (hl : Reads w B 1 (some ad) n (bytesV l)) (u m : Nat) (j : Nat) (hj : j < ((l.drop u).take m).length) :
    w.cell? ((ad.add u).add j) = some (.int .u8 ((((l.drop u).take m)[j]).toNat : Int)) := by
  have el := hl.byte_len
  have hj' := hj
  rw [List.length_take, List.length_drop] at hj'
  obtain ⟨ad', e1, -, -, e2⟩ := hl.byte_at (k := u + j) (by omega)
  cases e1
  rw [add_add', e2, List.getElem_take, List.getElem_drop, List.getElem?_eq_getElem (by omega), Option.getD_some]
theorem conv_bytes {w : World} {B n : Nat} {ad : Addr} {l : List UInt8} (hl : Reads w B 1 (some ad) n (bytesV l)) (u m cap : Nat) (hu : u + m ≤ l.length) :
    (convert 33 9 (.slice (some (ad.add u)) m cap)).run Try.prog w = .ok (.string ⟨((l.drop u).take m).toArray⟩) w := by
  have h := run_convert_bytes_back (P := Try.prog) w 33 9 5 (ad.add u) cap ((l.drop u).take m) Try.underlying33 Try.underlying5 Try.underlying9 (byte_cell hl u m)
  have e : ((l.drop u).take m).length = m := by rw [List.length_take, List.length_drop]; omega
  rw [e] at h
  exact h
theorem conv_none {w : World} {B n : Nat} {ad : Addr} {l : List UInt8} (hl : Reads w B 1 (some ad) n (bytesV l)) (cap : Nat) :
    (convert 33 9 (.slice (some ad) 0 cap)).run Try.prog w = .ok (.string ⟨#[]⟩) w := by
  have h := conv_bytes hl 0 0 cap (by omega)
  rw [show ad.add 0 = ad from rfl] at h
  simpa using h

set_option maxRecDepth 100000 in
set_option maxHeartbeats 1000000 in
theorem wGetBytes_any (A : Option Addr) (n c : Nat) (l : List UInt8) (w : World) (hl : Reads w w.heap.size 1 A n (bytesV l)) (hn : n ≤ 100000) (hnc : n ≤ c) :
    Calls Try.prog 47 #[.slice A n c] w fun e W' => e = .returned (retB (decB l)) ∧ Drawn w W' := by
  have hdef : decB l = (match decC 1 l with
    | .error e => .error e
    | .ok (n, u) => .ok ((l.drop u).take n, u + n)) := rfl
  have el := hl.byte_len
  cases hD : decC 1 l with
  | error q =>
    rw [hD] at hdef
    dsimp only at hdef
    rw [hdef]
    have hq : (q : Int) ≠ 0 := by rcases decC_err hD with h | h <;> omega
    go_enter Try.func47, Try.ntmps47
    go_wp2_with fail
    refine (wCount_any A n c 1 l w hl hn hnc (by omega) (by omega)).mono ?_
    rintro e w1 ⟨⟨x, y, z, rfl, h1, -⟩, k, rfl⟩
    obtain rfl := h1 q hD
    go_wp2_with fail
    go_ret3
    exact ⟨rfl, k, rfl⟩
  | ok p =>
    obtain ⟨m, u⟩ := p
    obtain ⟨hI, hu⟩ := decC_ok hD (by omega)
    rw [hD] at hdef
    dsimp only at hdef
    rw [hdef]
    clear hdef
    obtain ⟨S, hS⟩ : ∃ S : List UInt8, S = (l.drop u).take m := ⟨_, rfl⟩
    rw [← hS]
    have hlen : S.length = m := by rw [hS]; simp; omega
    have hu0 : 0 < u := by have := decI_canon l _ _ hI; omega
    have hA : ∃ ad, A = some ad := by obtain ⟨ad, h, -⟩ := hl.byte_at (k := 0) (by omega); exact ⟨ad, h⟩
    obtain ⟨ad, rfl⟩ := hA
    have b1 : (u : Int) + (m : Int) ≤ (c : Int) := by omega
    have b2 : IntKind.i64.wrap ((u : Int) + (m : Int)) = (u : Int) + (m : Int) := IntWalk.i64_in _ (by omega)
    have b3 : (u : Int) ≤ (u : Int) + (m : Int) := by omega
    have HS := Lib.hid hS
    clear hS
    go_enter Try.func47, Try.ntmps47
    go_wp2_with fail
    refine (wCount_any (some ad) n c 1 l w hl hn hnc (by omega) (by omega)).mono ?_
    rintro e w1 ⟨⟨x, y, z, rfl, -, h2⟩, k, rfl⟩
    obtain ⟨rfl, rfl, rfl⟩ := h2 (m, u) hD
    dsimp only
    clear h2
    by_cases hcu : c = u
    · obtain rfl : m = 0 := by omega
      have hcv := conv_none (hl.drewN k) 0
      have hS0 : S = [] := List.eq_nil_of_length_eq_zero hlen
      subst hS0
      go_wp2_with fail
      go_ret3
      exact ⟨rfl, k, rfl⟩
    · have hcu2 : (c : Int) ≠ (u : Int) := by omega
      have hcv := conv_bytes (hl.drewN k) u m (c - u) (by omega)
      rw [← HS.out] at hcv
      go_wp2_with fail
      go_ret3
      exact ⟨by simp [retB], k, rfl⟩

set_option maxRecDepth 100000 in
set_option maxHeartbeats 1000000 in
theorem rGetBytes_any (A : Option Addr) (n c : Nat) (l : List UInt8) (w : World) (hl : Reads w w.heap.size 1 A n (bytesV l)) (hn : n ≤ 100000) (hnc : n ≤ c) :
    Calls Try.prog 50 #[.slice A n c] w fun e W' => e = .returned (retB (decB l)) ∧ Below w.heap.size w W' := by
  have hdef : decB l = (match decC 1 l with
    | .error e => .error e
    | .ok (n, u) => .ok ((l.drop u).take n, u + n)) := rfl
  have el := hl.byte_len
  cases hD : decC 1 l with
  | error q =>
    rw [hD] at hdef
    dsimp only at hdef
    rw [hdef]
    have hq : (q : Int) ≠ 0 := by rcases decC_err hD with h | h <;> omega
    go_enter Try.func50, Try.ntmps50
    go_wp2_with fail
    refine (rCount_any A n c 1 l w hl hn hnc (by omega) (by omega)).mono ?_
    rintro e w1 ⟨⟨x, y, z, rfl, h1, -⟩, hb⟩
    obtain rfl := h1 q hD
    go_wp2_with fail
    go_ret3
    exact ⟨rfl, hb⟩
  | ok p =>
    obtain ⟨m, u⟩ := p
    obtain ⟨hI, hu⟩ := decC_ok hD (by omega)
    rw [hD] at hdef
    dsimp only at hdef
    rw [hdef]
    clear hdef
    obtain ⟨S, hS⟩ : ∃ S : List UInt8, S = (l.drop u).take m := ⟨_, rfl⟩
    rw [← hS]
    have hlen : S.length = m := by rw [hS]; simp; omega
    have hu0 : 0 < u := by have := decI_canon l _ _ hI; omega
    have hA : ∃ ad, A = some ad := by obtain ⟨ad, h, -⟩ := hl.byte_at (k := 0) (by omega); exact ⟨ad, h⟩
    obtain ⟨ad, rfl⟩ := hA
    have b1 : (u : Int) + (m : Int) ≤ (c : Int) := by omega
    have b2 : IntKind.i64.wrap ((u : Int) + (m : Int)) = (u : Int) + (m : Int) := IntWalk.i64_in _ (by omega)
    have b3 : (u : Int) ≤ (u : Int) + (m : Int) := by omega
    have HS := Lib.hid hS
    clear hS
    go_enter Try.func50, Try.ntmps50
    go_wp2_with fail
    refine (rCount_any (some ad) n c 1 l w hl hn hnc (by omega) (by omega)).mono ?_
    rintro e w1 ⟨⟨x, y, z, rfl, -, h2⟩, hb⟩
    obtain ⟨rfl, rfl, rfl⟩ := h2 (m, u) hD
    dsimp only
    clear h2
    by_cases hcu : c = u
    · obtain rfl : m = 0 := by omega
      have hcv := conv_none (hl.below hb) 0
      have hS0 : S = [] := List.eq_nil_of_length_eq_zero hlen
      subst hS0
      go_wp2_with fail
      go_ret3
      exact ⟨rfl, hb⟩
    · have hcu2 : (c : Int) ≠ (u : Int) := by omega
      have hcv := conv_bytes (hl.below hb) u m (c - u) (by omega)
      rw [← HS.out] at hcv
      go_wp2_with fail
      go_ret3
      exact ⟨by simp [retB], hb⟩
end Go.Proofs.Ytbekkndkdfmijaa
