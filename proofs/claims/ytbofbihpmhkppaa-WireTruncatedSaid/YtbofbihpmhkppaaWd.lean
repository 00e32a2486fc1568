/- The two functions Digests (the program's and the reference's) return the same bytes, the specified encoding of a list of digests. Conditions: at most 100000 digests. -/
import Derived.Test.YtbofbihpmhkppaaWc
namespace Go.Proofs.Ytbofbihpmhkppaa
open Go.RowKit

section
variable {P : Program}
theorem run_loadVar_cells (w : World) (ad : Addr) (ty : TypeId) (cs : List Value) (d : TypeDesc) (hc : ∀ j v, cs[j]? = some v → w.cell? (ad.add j) = some v)
    (hu : P.underlying ty = some d) (hd : (match d with | .struct _ | .array _ _ => true | _ => false) = true) (hi : (P.info? ty).map (·.size) = some cs.length) :
    (loadVar ty ad).run P w = .ok (.agg cs.toArray) w := by
  have hl : (loadCells ad cs.length).run P w = .ok cs.toArray w := run_loadCells_list (P := P) w ad cs hc
  cases hq : P.info? ty with
  | none => simp [hq] at hi
  | some i =>
    have hs : i.size = cs.length := by simpa [hq] using hi
    have hagg : (isAgg ty).run P w = .ok true w := by
      unfold isAgg
      rw [Sem.run_bind, run_underlying hu w]
      cases d <;> simp_all
    simp [loadVar, Sem.run_bind, hagg, sizeOf, typeInfo, hq, hs, hl]
/-- a whole array or struct read out of the middle of a block -/
theorem wpList_load_cells {ops : Array Oper} {rest : List Oper} {o : Oper} {a : Act} {w : World} {Q : Exit → Act → World → Prop} (hgd : o.guard = none) (ty : TypeId) (x : Operand) (ho : o.op = .load ty x)
    (ad : Addr) (hx : a.eval x = .pointer (some ad)) (cs : List Value) (d : TypeDesc) (hc : ∀ j v, cs[j]? = some v → w.cell? (ad.add j) = some v)
    (hu : P.underlying ty = some d) (hd : (match d with | .struct _ | .array _ _ => true | _ => false) = true) (hi : (P.info? ty).map (·.size) = some cs.length)
    (h : wpList P ops Q rest (a.put o.dst (.agg cs.toArray)) w) : wpList P ops Q (o :: rest) a w := by
  refine wpList_plain hgd fun _ hK => ?_
  unfold Oper.wp execOp
  simp only [ho, hx, Instr.loadAt, Instr.sureAddr, Sem.run_bind, Sem.run_pure, Result.andThen_ok, run_loadVar_cells w ad ty cs d hc hu hd hi]
  exact hK _ _ h
end
theorem list16 {α : Type} (l : List α) (h : l.length = 16) : ∃ a b c d e f g i j k m n o p q r : α, l = [a, b, c, d, e, f, g, i, j, k, m, n, o, p, q, r] := by
  match l, h with
  | [a, b, c, d, e, f, g, i, j, k, m, n, o, p, q, r], _ => exact ⟨a, b, c, d, e, f, g, i, j, k, m, n, o, p, q, r, rfl⟩
theorem dig_len {w : World} {B n : Nat} {A : Option Addr} {l : List UInt8} (h : Reads w B 16 A n (bytesV l)) : l.length = n * 16 := by
  have := h.1; rwa [bytesV_length] at this
theorem dig_split (l : List UInt8) (j : Nat) (h : 16 * j + 16 ≤ l.length) : ∃ D : List UInt8, D.length = 16 ∧ l.take (16 * (j + 1)) = l.take (16 * j) ++ D ∧ D = (l.drop (16 * j)).take 16 := by
  refine ⟨_, by simp; omega, ?_, rfl⟩
  rw [Nat.mul_add, Nat.mul_one, List.take_add]
theorem dig_cells {w : World} {ad : Addr} {l D : List UInt8} {j : Nat} (hc : ∀ (k : Nat) (u : Value), (bytesV l)[k]? = some u → w.cell? (ad.add k) = some u) (hD : D = (l.drop (16 * j)).take 16) (k : Nat) (u : Value)
    (hu : (bytesV D)[k]? = some u) : w.cell? ((ad.add (j * 16)).add k) = some u := by
  rw [add_add']
  refine hc _ u ?_
  rw [bytesV_get] at hu ⊢
  rw [hD, List.getElem?_take] at hu
  split at hu
  · rw [List.getElem?_drop] at hu
    rw [show j * 16 + k = 16 * j + k by omega]; exact hu
  · simp at hu

theorem cells_new (w : World) (e : TypeId) (cs : List Value) (j : Nat) (u : Value) (h : cs[j]? = some u) : (w.alloc (.cells cs.toArray e)).cell? ((⟨w.heap.size, 0, none⟩ : Addr).add j) = some u := by
  rw [addr_add0, cell_of_block _ _ _ _ _ _ (heap_alloc_new w _)]
  simpa using h
def encDigs (n : Nat) (l : List UInt8) : List UInt8 := encInt n ++ l

set_option maxRecDepth 100000 in
set_option maxHeartbeats 1000000 in
theorem wDigs_any (A : Option Addr) (n c : Nat) (l : List UInt8) (w : World) (hl : Reads w w.heap.size 16 A n (bytesV l)) (hn : n ≤ 100000) :
    Calls Try.prog 35 #[.slice A n c] w fun e W' => ∃ v, e = .returned v ∧ W'.ownsRow w.heap.size 5 1 v (encDigs n l).length (bytesV (encDigs n l)) ∧ Below w.heap.size w W' := by
  obtain ⟨i0, hi, hz0, hz1, hz2⟩ := info_parts info_u8
  have hle := encInt_le (n : Int) (I64.nat (by omega))
  obtain ⟨P, hP⟩ : ∃ P : List UInt8, P = encInt (n : Int) := ⟨_, rfl⟩
  have HP := Lib.hid hP
  rw [← hP] at hle
  go_enter Try.func35, Try.ntmps35
  go_wp2_with fail
  refine (wInt_any n w (by omega) (by omega)).mono ?_
  rintro e w1 ⟨v, rfl, hown, hb⟩
  rw [← hP] at hown
  clear hP
  go_wp2_with fail
  go_loopw [3, 11] (fun v i wr => ∃ j : Nat, j ≤ n ∧ i = .int .i64 j ∧ wr.ownsRow w.heap.size 5 1 v (P ++ (l.take (16 * j))).length (bytesV (P ++ (l.take (16 * j)))) ∧ Below w.heap.size w wr)
    (fun _ i _ => n - (intOf i).toNat)
  case atStart => exact ⟨0, by omega, rfl, by simpa using hown, hb⟩
  case round =>
    clear hown hb
    obtain ⟨j, hj, rfl, hown, hnx⟩ := hrel
    by_cases hlt : j < n
    · obtain ⟨ad, rfl, -, hc⟩ := (hl.below hnx).2 (by omega)
      have hji : (j : Int) < (n : Int) := by omega
      obtain ⟨D, hD, hs, hdd⟩ := dig_split l j (by have := dig_len hl; omega)
      have hcs := fun k u => dig_cells hc hdd k u
      obtain ⟨b0, b1, b2, b3, b4, b5, b6, b7, b8, b9, b10, b11, b12, b13, b14, b15, rfl⟩ := list16 D hD
      have HS := Lib.hid hs
      have hcs2 : ∀ (k : Nat) (u : Value), ([.int .u8 ((b0.toNat : Nat) : Int), .int .u8 ((b1.toNat : Nat) : Int), .int .u8 ((b2.toNat : Nat) : Int), .int .u8 ((b3.toNat : Nat) : Int), .int .u8 ((b4.toNat : Nat) : Int), .int .u8 ((b5.toNat : Nat) : Int), .int .u8 ((b6.toNat : Nat) : Int), .int .u8 ((b7.toNat : Nat) : Int), .int .u8 ((b8.toNat : Nat) : Int), .int .u8 ((b9.toNat : Nat) : Int), .int .u8 ((b10.toNat : Nat) : Int), .int .u8 ((b11.toNat : Nat) : Int), .int .u8 ((b12.toNat : Nat) : Int), .int .u8 ((b13.toNat : Nat) : Int), .int .u8 ((b14.toNat : Nat) : Int), .int .u8 ((b15.toNat : Nat) : Int)] : List Value)[k]? = some u → wr.cell? ((ad.add (j * 16)).add k) = some u := hcs
      have HCS := Lib.hid hcs2
      clear hs hdd hc hcs hcs2 hD
      have hlen : (P ++ l.take (16 * j)).length ≤ 9 + 16 * 100000 := by
        rw [List.length_append, List.length_take]; omega
      go_wp2_with (first
        | (with_reducible refine wpList_load_cells rfl 79 _ rfl (ad.add (j * 16)) rfl [.int .u8 ((b0.toNat : Nat) : Int), .int .u8 ((b1.toNat : Nat) : Int), .int .u8 ((b2.toNat : Nat) : Int), .int .u8 ((b3.toNat : Nat) : Int), .int .u8 ((b4.toNat : Nat) : Int), .int .u8 ((b5.toNat : Nat) : Int), .int .u8 ((b6.toNat : Nat) : Int), .int .u8 ((b7.toNat : Nat) : Int), .int .u8 ((b8.toNat : Nat) : Int), .int .u8 ((b9.toNat : Nat) : Int), .int .u8 ((b10.toNat : Nat) : Int), .int .u8 ((b11.toNat : Nat) : Int), .int .u8 ((b12.toNat : Nat) : Int), .int .u8 ((b13.toNat : Nat) : Int), .int .u8 ((b14.toNat : Nat) : Int), .int .u8 ((b15.toNat : Nat) : Int)] _ (HCS.out) Try.underlying79 rfl (by kernel_rfl) ?_)
        | (at_builtin; refine wpList_append_own _ rfl _ _ 46 rfl w.heap.size 5 i0 (.int .u8 0) 1 1 Try.underlying46 hi hz0 hz1 hz2 rfl (by decide) _ _ _ rfl (hown.alloc _) ⟨wr.heap.size, 0, none⟩ 16 16 [.int .u8 ((b0.toNat : Nat) : Int), .int .u8 ((b1.toNat : Nat) : Int), .int .u8 ((b2.toNat : Nat) : Int), .int .u8 ((b3.toNat : Nat) : Int), .int .u8 ((b4.toNat : Nat) : Int), .int .u8 ((b5.toNat : Nat) : Int), .int .u8 ((b6.toNat : Nat) : Int), .int .u8 ((b7.toNat : Nat) : Int), .int .u8 ((b8.toNat : Nat) : Int), .int .u8 ((b9.toNat : Nat) : Int), .int .u8 ((b10.toNat : Nat) : Int), .int .u8 ((b11.toNat : Nat) : Int), .int .u8 ((b12.toNat : Nat) : Int), .int .u8 ((b13.toNat : Nat) : Int), .int .u8 ((b14.toNat : Nat) : Int), .int .u8 ((b15.toNat : Nat) : Int)] rfl rfl (cells_new wr _ _) (bytesV_one [b0, b1, b2, b3, b4, b5, b6, b7, b8, b9, b10, b11, b12, b13, b14, b15]) (by unfold maxLen; omega) (by omega) (by have := hnx.size; simp; omega) ?_; intro v' w1 hown' hgrow _))
      go_roundw
      case rel => exact ⟨j + 1, by omega, by go_num, by rw [HS.out, ← List.append_assoc, List.length_append, bytesV_append]; exact hown', (hnx.alloc hnx.size _).grown hgrow (by simp; have := hnx.size; omega) (fun b e => (hown.lt b e).1)⟩
      case measure => simp [intOf]; omega
    · obtain rfl : j = n := by omega
      go_wp2
      go_ret
      refine ⟨_, rfl, ?_, hnx⟩
      have e : encDigs j l = P ++ l.take (16 * j) := by rw [List.take_of_length_le (by have := dig_len hl; omega), HP.out]; rfl
      rw [e]; exact hown


theorem dig_cell1 {w : World} {ad : Addr} {n j k : Nat} {l : List UInt8} (hc : ∀ (k : Nat) (u : Value), (bytesV l)[k]? = some u → w.cell? (ad.add k) = some u) (hl : l.length = n * 16) (hj : j < n) (hk : k < 16) :
    ∃ b : UInt8, w.cell? ((ad.add (j * 16)).add k) = some (.int .u8 (b.toNat : Int)) ∧ l.take (16 * j + k + 1) = l.take (16 * j + k) ++ [b] := by
  have hlt : 16 * j + k < l.length := by omega
  refine ⟨l[16 * j + k], ?_, by rw [List.take_add_one, List.getElem?_eq_getElem hlt]; rfl⟩
  rw [add_add']
  refine hc _ _ ?_
  rw [bytesV_get, show j * 16 + k = 16 * j + k by omega, List.getElem?_eq_getElem hlt]; rfl

set_option maxRecDepth 100000 in
set_option maxHeartbeats 1000000 in
theorem rDigs_any (A : Option Addr) (n c : Nat) (l : List UInt8) (w : World) (hl : Reads w w.heap.size 16 A n (bytesV l)) (hn : n ≤ 100000) :
    Calls Try.prog 36 #[.slice A n c] w fun e W' => ∃ v, e = .returned v ∧ W'.ownsRow w.heap.size 5 1 v (encDigs n l).length (bytesV (encDigs n l)) ∧ Below w.heap.size w W' := by
  obtain ⟨i0, hi, hz0, hz1, hz2⟩ := info_parts info_u8
  have hle := encInt_le (n : Int) (I64.nat (by omega))
  have hL := dig_len hl
  obtain ⟨P, hP⟩ : ∃ P : List UInt8, P = encInt (n : Int) := ⟨_, rfl⟩
  have HP := Lib.hid hP
  rw [← hP] at hle
  go_enter Try.func36, Try.ntmps36
  go_wp2_with fail
  refine (rInt_any n w (by omega) (by omega)).mono ?_
  rintro e w1 ⟨v, rfl, hown, hb⟩
  rw [← hP] at hown
  clear hP
  go_wp2_with fail
  go_loopw [3, 4] (fun v i wr => ∃ j : Nat, j ≤ n ∧ i = .int .i64 j ∧ wr.ownsRow w.heap.size 5 1 v (P ++ (l.take (16 * j))).length (bytesV (P ++ (l.take (16 * j)))) ∧ Below w.heap.size w wr)
    (fun _ i _ => n - (intOf i).toNat)
  case atStart => exact ⟨0, by omega, rfl, by simpa using hown, hb⟩
  case round =>
    clear hown hb
    obtain ⟨j, hj, rfl, hown, hnx⟩ := hrel
    obtain ⟨wo, rfl⟩ : ∃ wo : World, wo = wr := ⟨_, rfl⟩
    by_cases hlt : j < n
    · have hji : (j : Int) < (n : Int) := by omega
      go_wp2
      go_loopw [3, 5] (fun v i wr => ∃ k : Nat, k ≤ 16 ∧ i = .int .i64 k ∧ wr.ownsRow w.heap.size 5 1 v (P ++ (l.take (16 * j + k))).length (bytesV (P ++ (l.take (16 * j + k)))) ∧ Below w.heap.size w wr)
        (fun _ i _ => 16 - (intOf i).toNat)
      case atStart => exact ⟨0, by omega, rfl, by simpa using hown, hnx⟩
      case round =>
        clear hown hnx
        obtain ⟨k, hk, rfl, hown, hnx⟩ := hrel
        by_cases hlk : k < 16
        · obtain ⟨ad, rfl, -, hc⟩ := (hl.below hnx).2 (by omega)
          obtain ⟨b, hbc, hs⟩ := dig_cell1 hc hL hlt hlk
          have hkk : (k : Int) < 16 := by omega
          have hlen : (P ++ l.take (16 * j + k)).length ≤ 9 + 16 * 100001 := by
            rw [List.length_append, List.length_take]; omega
          have HS := Lib.hid hs
          clear hs hc
          go_wp2_with (at_builtin; refine wpList_append_own _ rfl _ _ 46 rfl w.heap.size 5 i0 (.int .u8 0) 1 1 Try.underlying46 hi hz0 hz1 hz2 rfl (by decide) _ _ _ rfl (hown.alloc _) ⟨wr.heap.size, 0, none⟩ 1 1 [.int .u8 (b.toNat : Int)] rfl rfl (cell_one_new _ _ _) (by simp [Value.oneCell']) (by unfold maxLen; omega) (by omega) (by first | (simp; done) | (have := hnx.size; simp; omega)) ?_; intro v' w1 hown' hgrow _)
          go_roundw
          case rel => exact ⟨k + 1, by omega, by go_num, by rw [show 16 * j + (k + 1) = 16 * j + k + 1 by omega, HS.out, ← List.append_assoc, List.length_append, bytesV_append]; exact hown', (hnx.alloc hnx.size _).grown hgrow (by simp; have := hnx.size; omega) (fun b e => (hown.lt b e).1)⟩
          case measure => simp [intOf]; omega
        · obtain rfl : k = 16 := by omega
          go_wp2
          go_roundw
          case rel => exact ⟨j + 1, by omega, by go_num, hown, hnx⟩
          case measure => simp [intOf]; omega
    · obtain rfl : j = n := by omega
      go_wp2
      go_ret
      refine ⟨_, rfl, ?_, hnx⟩
      have e : encDigs j l = P ++ l.take (16 * j) := by rw [List.take_of_length_le (by omega), HP.out]; rfl
      rw [e]; exact hown
end Go.Proofs.Ytbofbihpmhkppaa
