/- The comparison of two lists of digests returns whether they are equal. Conditions: both of the same length, at most 100000. -/
import Derived.Test.YtbofbihpmhkppaaWq
namespace Go.Proofs.Ytbofbihpmhkppaa
open Go.RowKit

theorem cells16 {w : World} {p : Addr} {x0 x1 x2 x3 x4 x5 x6 x7 x8 x9 x10 x11 x12 x13 x14 x15 : UInt8} (h : ∀ (k : Nat) (u : Value), ([.int .u8 ((x0.toNat : Nat) : Int), .int .u8 ((x1.toNat : Nat) : Int), .int .u8 ((x2.toNat : Nat) : Int), .int .u8 ((x3.toNat : Nat) : Int), .int .u8 ((x4.toNat : Nat) : Int), .int .u8 ((x5.toNat : Nat) : Int), .int .u8 ((x6.toNat : Nat) : Int), .int .u8 ((x7.toNat : Nat) : Int), .int .u8 ((x8.toNat : Nat) : Int), .int .u8 ((x9.toNat : Nat) : Int), .int .u8 ((x10.toNat : Nat) : Int), .int .u8 ((x11.toNat : Nat) : Int), .int .u8 ((x12.toNat : Nat) : Int), .int .u8 ((x13.toNat : Nat) : Int), .int .u8 ((x14.toNat : Nat) : Int), .int .u8 ((x15.toNat : Nat) : Int)] : List Value)[k]? = some u → w.cell? (p.add k) = some u) : w.cell? p = some (.int .u8 ((x0.toNat : Nat) : Int)) ∧ w.cell? ⟨p.block, p.off + 1, none⟩ = some (.int .u8 ((x1.toNat : Nat) : Int)) ∧ w.cell? ⟨p.block, p.off + 2, none⟩ = some (.int .u8 ((x2.toNat : Nat) : Int)) ∧ w.cell? ⟨p.block, p.off + 3, none⟩ = some (.int .u8 ((x3.toNat : Nat) : Int)) ∧ w.cell? ⟨p.block, p.off + 4, none⟩ = some (.int .u8 ((x4.toNat : Nat) : Int)) ∧ w.cell? ⟨p.block, p.off + 5, none⟩ = some (.int .u8 ((x5.toNat : Nat) : Int)) ∧ w.cell? ⟨p.block, p.off + 6, none⟩ = some (.int .u8 ((x6.toNat : Nat) : Int)) ∧ w.cell? ⟨p.block, p.off + 7, none⟩ = some (.int .u8 ((x7.toNat : Nat) : Int)) ∧ w.cell? ⟨p.block, p.off + 8, none⟩ = some (.int .u8 ((x8.toNat : Nat) : Int)) ∧ w.cell? ⟨p.block, p.off + 9, none⟩ = some (.int .u8 ((x9.toNat : Nat) : Int)) ∧ w.cell? ⟨p.block, p.off + 10, none⟩ = some (.int .u8 ((x10.toNat : Nat) : Int)) ∧ w.cell? ⟨p.block, p.off + 11, none⟩ = some (.int .u8 ((x11.toNat : Nat) : Int)) ∧ w.cell? ⟨p.block, p.off + 12, none⟩ = some (.int .u8 ((x12.toNat : Nat) : Int)) ∧ w.cell? ⟨p.block, p.off + 13, none⟩ = some (.int .u8 ((x13.toNat : Nat) : Int)) ∧ w.cell? ⟨p.block, p.off + 14, none⟩ = some (.int .u8 ((x14.toNat : Nat) : Int)) ∧ w.cell? ⟨p.block, p.off + 15, none⟩ = some (.int .u8 ((x15.toNat : Nat) : Int)) :=
  ⟨h 0 _ rfl, h 1 _ rfl, h 2 _ rfl, h 3 _ rfl, h 4 _ rfl, h 5 _ rfl, h 6 _ rfl, h 7 _ rfl, h 8 _ rfl, h 9 _ rfl, h 10 _ rfl, h 11 _ rfl, h 12 _ rfl, h 13 _ rfl, h 14 _ rfl, h 15 _ rfl⟩

set_option maxRecDepth 100000 in
set_option maxHeartbeats 2000000 in
theorem sameDigs_any (A B : Option Addr) (n c d : Nat) (l r : List UInt8) (b : Nat) (w : World) (hl : Reads w b 16 A n (bytesV l)) (hr : Reads w b 16 B n (bytesV r)) (hn : n ≤ 100000) :
    Calls Try.prog 48 #[.slice A n c, .slice B n d] w fun e w' => e = .returned (.bool (decide (l = r))) ∧ Drawn w w' := by
  have el := dig_len hl
  have er := dig_len hr
  have hne : ((n : Int) != (n : Int)) = false := by simp
  have HL := Lib.hid el
  have HR := Lib.hid er
  clear el er
  go_enter Try.func48, Try.ntmps48
  go_wp2
  go_loopw [5] (fun i wr => ∃ k : Nat, k ≤ n ∧ i = .int .i64 k ∧ l.take (16 * k) = r.take (16 * k) ∧ Drawn w wr) (fun i _ => n - (intOf i).toNat)
  case atStart => exact ⟨0, by omega, rfl, by simp, 0, rfl⟩
  case round =>
    obtain ⟨k, hk, rfl, heq, q, rfl⟩ := hrel
    have HE := Lib.hid heq
    clear heq
    by_cases hlt : k < n
    · obtain ⟨a1, rfl, -, h1⟩ := hl.2 (by omega)
      obtain ⟨a2, rfl, -, h2⟩ := hr.2 (by omega)
      have hki : (k : Int) < (n : Int) := by omega
      obtain ⟨D, hD, hs1, hd1⟩ := dig_split l k (by have := HL.out; omega)
      obtain ⟨E, hE, hs2, hd2⟩ := dig_split r k (by have := HR.out; omega)
      have c1 := fun j u => dig_cells h1 hd1 j u
      have c2 := fun j u => dig_cells h2 hd2 j u
      clear hd1 hd2 h1 h2
      obtain ⟨x0, x1, x2, x3, x4, x5, x6, x7, x8, x9, x10, x11, x12, x13, x14, x15, rfl⟩ := list16 D hD
      obtain ⟨y0, y1, y2, y3, y4, y5, y6, y7, y8, y9, y10, y11, y12, y13, y14, y15, rfl⟩ := list16 E hE
      have e1 := cells16 c1
      have e2 := cells16 c2
      have H1 := Lib.hid hs1
      have H2 := Lib.hid hs2
      clear hs1 hs2 c1 c2 hD hE
      obtain ⟨u0, u1, u2, u3, u4, u5, u6, u7, u8, u9, u10, u11, u12, u13, u14, u15⟩ := e1
      obtain ⟨v0, v1, v2, v3, v4, v5, v6, v7, v8, v9, v10, v11, v12, v13, v14, v15⟩ := e2
      have HQ := Lib.hid (eq_dig x0 x1 x2 x3 x4 x5 x6 x7 x8 x9 x10 x11 x12 x13 x14 x15 y0 y1 y2 y3 y4 y5 y6 y7 y8 y9 y10 y11 y12 y13 y14 y15)
      by_cases hde : ([x0, x1, x2, x3, x4, x5, x6, x7, x8, x9, x10, x11, x12, x13, x14, x15] : List UInt8) = [y0, y1, y2, y3, y4, y5, y6, y7, y8, y9, y10, y11, y12, y13, y14, y15]
      · have heq := fun W => (HQ.out W).trans (by rw [decide_eq_true hde])
        have HDE := Lib.hid hde
        clear hde
        go_wp2
        go_quiet (fail)
        go_wp2
        go_roundw
        case rel => exact ⟨k + 1, by omega, by go_num, by rw [H1.out, H2.out, HE.out, HDE.out], _, rfl⟩
        case measure => simp [intOf]; omega
      · have heq := fun W => (HQ.out W).trans (by rw [decide_eq_false hde])
        have HDE := Lib.hid hde
        clear hde
        go_wp2
        go_quiet (fail)
        go_wp2
        go_ret
        refine ⟨ret_bool ?_, _, World.drewN_drewN _ _ _⟩
        symm
        rw [decide_eq_false_iff_not]
        intro hlr
        have h3 := H1.out
        rw [hlr, H2.out, ← HE.out, hlr] at h3
        exact HDE.out (List.append_cancel_left h3).symm
    · obtain rfl : k = n := by omega
      go_wp2
      go_ret
      have h1 := HE.out
      rw [List.take_of_length_le (by have := HL.out; omega), List.take_of_length_le (by have := HR.out; omega)] at h1
      exact ⟨ret_bool (by symm; simpa using h1), q, rfl⟩
end Go.Proofs.Ytbofbihpmhkppaa

