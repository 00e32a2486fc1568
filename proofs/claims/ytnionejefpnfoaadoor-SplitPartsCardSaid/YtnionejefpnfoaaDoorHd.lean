/- The stream of SHA-256: what it holds of a message. Plain laws. Nothing of the program stands here but the constants. -/
import Derived.Test.YtnionejefpnfoaaDoorHc
import Derived.Laws.CopyRow
namespace Go.Proofs.YtnionejefpnfoaaDoor
open Go.RowKit

/-- the zero value of a stream -/
theorem zeroValue73 (w : World) : (zeroValue 84).run Tryd.prog w = .ok (.agg Tryd.zeroCells84) w := by
  have h : Tryd.t84.zero = some (.agg Tryd.zeroCells84) := by kernel_rfl
  simp [zeroValue, go_sem, h]
theorem zeroCells73_ne : ¬ Tryd.zeroCells84 = #[] := fun h => by
  have := congrArg Array.size h
  cases this

def S0 : St := ⟨1779033703, 3144134277, 1013904242, 2773480762, 1359893119, 2600822924, 528734635, 1541459225⟩
/-- block k of a message -/
def blk (m : List UInt8) (k : Nat) : List UInt8 := (m.drop (64 * k)).take 64
/-- the hash value after k blocks -/
def stN (m : List UInt8) : Nat → St
  | 0 => S0
  | k + 1 => comp (stN m k) (blk m k)
theorem blk_app (m t : List UInt8) (k : Nat) (h : 64 * (k + 1) ≤ m.length) : blk (m ++ t) k = blk m k := by
  unfold blk
  rw [List.drop_append_of_le_length (by omega), List.take_append_of_le_length (by rw [List.length_drop]; omega)]
theorem stN_app (m t : List UInt8) (k : Nat) (h : 64 * k ≤ m.length) : stN (m ++ t) k = stN m k := by
  induction k with
  | zero => rfl
  | succ k ih => rw [stN, stN, ih (by omega), blk_app m t k h]
/-- the cells of a stream: the value after whole blocks, the last block's bytes, the length -/
def strm (s : St) (bl : List UInt8) (n : Nat) : List Value := s.cells.toList ++ bytesV bl ++ [.int .u64 (n : Int)]
/-- that list is a stream of message m -/
def IsStr (m : List UInt8) (bl : List UInt8) : Prop := bl.length = 64 ∧ bl.take (m.length % 64) = m.drop (64 * (m.length / 64))
theorem strm_length (s : St) {bl : List UInt8} (n : Nat) (h : bl.length = 64) : (strm s bl n).length = 73 := by
  simp [strm, St.cells, bytesV_length, h]
/-- a piece of a text is laid behind what lies in the block -/
theorem isStr_add {m bl t : List UInt8} {k : Nat} (h : IsStr m bl) (hk : k = min t.length (64 - m.length % 64)) (ht : 0 < t.length) :
    IsStr (m ++ t.take k) (bl.take (m.length % 64) ++ t.take k ++ bl.drop (m.length % 64 + k)) ∧
      (m.length % 64 + k = 64 → blk (m ++ t.take k) (m.length / 64) = bl.take (m.length % 64) ++ t.take k ++ bl.drop (m.length % 64 + k) ∧ (m ++ t.take k).length / 64 = m.length / 64 + 1) ∧
      (m.length % 64 + k ≠ 64 → (m ++ t.take k).length / 64 = m.length / 64) := by
  obtain ⟨h1, h2⟩ := h
  have hkt : k ≤ t.length := by omega
  have hlk : (t.take k).length = k := by rw [List.length_take]; omega
  have hdm := Nat.div_add_mod m.length 64
  have hL : (m ++ t.take k).length = m.length + k := by rw [List.length_append, hlk]
  have hbt : (bl.take (m.length % 64)).length = m.length % 64 := by rw [List.length_take]; omega
  have hdrop : (m ++ t.take k).drop (64 * (m.length / 64)) = bl.take (m.length % 64) ++ t.take k := by
    rw [List.drop_append_of_le_length (by omega), h2]
  refine ⟨⟨?_, ?_⟩, fun he => ⟨?_, ?_⟩, fun hne => ?_⟩
  · simp only [List.length_append, List.length_drop, hbt, hlk, h1]; omega
  · by_cases he : m.length % 64 + k = 64
    · have e1 : (m ++ t.take k).length % 64 = 0 := by rw [hL]; omega
      have e2 : (m ++ t.take k).length / 64 * 64 = (m ++ t.take k).length := by rw [hL]; omega
      rw [e1, List.take_zero, Nat.mul_comm, e2, List.drop_length]
    · have e1 : (m ++ t.take k).length % 64 = m.length % 64 + k := by rw [hL]; omega
      have e2 : (m ++ t.take k).length / 64 = m.length / 64 := by rw [hL]; omega
      rw [e1, e2, hdrop, List.take_append_of_le_length (by rw [List.length_append, hbt, hlk]; exact Nat.le_refl _), List.take_of_length_le (by rw [List.length_append, hbt, hlk]; exact Nat.le_refl _)]
  · unfold blk
    rw [hdrop, List.take_of_length_le (by rw [List.length_append, hbt, hlk]; omega), he, List.drop_of_length_le (by omega), List.append_nil]
  · rw [hL]; omega
  · rw [hL]; omega

section
variable {P : Program}
/-- 'copy(dst, s)' of a string, of as many bytes as there is room for -/
theorem run_copy_str (w : World) (dT sT ty elem : TypeId) (g o dLen dCap : Nat) (s : ByteArray) (cur : Array Value) (t : TypeId)
    (hu : P.underlying dT = some (.slice elem)) (hs : (P.info? elem).map (·.size) = some 1) (hg : w.heap[g]? = some (.cells cur t (0, 0))) (n : Nat) (hn : n = Nat.min s.size dLen) (hfit : o + n ≤ cur.size) :
    (Builtin.copy_ #[dT, sT] ty #[.slice (some ⟨g, o, none⟩) dLen dCap, .string s]).run P w =
      .ok (goInt n) (w.setRow g (cur.toList.take o ++ bytesV (s.data.toList.take n) ++ cur.toList.drop (o + n)).toArray) := by
  have hns : n ≤ s.size := by rw [hn]; exact Nat.min_le_left _ _
  have hlen : (bytesV (s.data.toList.take n)).length = n := by rw [bytesV_length, List.length_take, size_list]; omega
  have hst := run_storeCells_at P g o t (bytesV (s.data.toList.take n)) 0 cur w hg (by rw [hlen]; simpa using hfit) (bytesV_one _)
  have htk : List.take n (List.map (fun b : UInt8 => Value.int IntKind.u8 (b.toNat : Int)) s.data.toList) = bytesV (s.data.toList.take n) := by
    unfold bytesV; rw [List.map_take]
  rw [hlen] at hst
  simp only [Nat.add_zero] at hst
  cases hq : P.info? elem with
  | none => simp [hq] at hs
  | some i =>
    simp [Builtin.copy_, run_underlying hu, Builtin.lenOf, Builtin.firstCells, sizeOf, typeInfo, hq, ← hn]
    rw [htk, hst]
    simp [Result.andThen]
theorem wpList_copy_str {w : World} {ops : Array Oper} {rest : List Oper} {o : Oper} {a : Act} {Q : Exit → Act → World → Prop} (hgd : o.guard = none) (d s : Operand) (dT sT : TypeId)
    (ho : o.op = .call { callee := .builtin .copy, args := #[d, s], argTypes := #[dT, sT] }) (elem : TypeId) (g off dLen dCap : Nat) (x : ByteArray) (cur : Array Value) (t : TypeId)
    (hu : P.underlying dT = some (.slice elem)) (hs : (P.info? elem).map (·.size) = some 1) (hd : a.eval d = .slice (some ⟨g, off, none⟩) dLen dCap) (hx : a.eval s = .string x)
    (hg : w.heap[g]? = some (.cells cur t (0, 0))) (n : Nat) (hn : n = Nat.min x.size dLen) (hfit : off + n ≤ cur.size)
    (h : ∀ w1, Hid (w1 = w.setRow g (cur.toList.take off ++ bytesV (x.data.toList.take n) ++ cur.toList.drop (off + n)).toArray) → wpList P ops Q rest (a.put o.dst (.int .i64 (n : Int))) w1) : wpList P ops Q (o :: rest) a w := by
  refine wpList_plain hgd fun K hK => ?_
  have hrun := run_copy_str (P := P) w dT sT o.type elem g off dLen dCap x cur t hu hs hg n hn hfit
  unfold Oper.wp execOp
  simp only [ho, resolve, invoke, builtin, Sem.run_bind, Sem.run_pure, Result.andThen_ok, List.map_toArray, List.map_cons, List.map_nil, hd, hx, hrun]
  exact hK _ _ (h _ (Lib.hid rfl))
end
end Go.Proofs.YtnionejefpnfoaaDoor
