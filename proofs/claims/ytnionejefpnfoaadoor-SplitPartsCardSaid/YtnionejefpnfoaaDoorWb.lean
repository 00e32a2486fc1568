/- Same, and the encodings of byte strings and of lists of integers. Conditions: lengths of at most a million, integers of 64 bits. -/
import Derived.Test.YtnionejefpnfoaaDoorRi
import Derived.Lib.AppendStr
import Derived.Laws.IdiomStrings
namespace Go.Proofs.YtnionejefpnfoaaDoor
open Go.RowKit

def I64 (x : Int) : Prop := -9223372036854775808 ≤ x ∧ x ≤ 9223372036854775807
theorem I64.nat {n : Nat} (h : n ≤ 1000000000) : I64 (n : Int) := by unfold I64; omega

theorem bytes_all_eq {l r : List UInt8} (h : l.length = r.length) (e : ∀ j, j < l.length → ((l[j]?.getD 0).toNat : Int) = (r[j]?.getD 0).toNat) : l = r := by
  apply List.ext_getElem h
  intro i h1 h2
  have := e i h1
  rw [List.getElem?_eq_getElem h1, List.getElem?_eq_getElem h2] at this
  exact UInt8.toNat_inj.1 (by simp only [Option.getD_some] at this; omega)

/-- the encoding of a byte string -/
def encBytes (l : List UInt8) : List UInt8 := encInt l.length ++ l
theorem encInt_le (n : Int) (h : I64 n) : (encInt n).length ≤ 9 := by
  rw [encInt_length]; have := (nd_spec (mag_lt h.1 h.2)).2.1; omega
theorem strCells_bytes (s : ByteArray) : Lib.strCells s = bytesV s.data.toList := by simp [Lib.strCells, bytesV]
theorem size_list (s : ByteArray) : s.data.toList.length = s.size := by simp

set_option maxRecDepth 100000 in
set_option maxHeartbeats 1000000 in
theorem wBytes_any (s : ByteArray) (w : World) (hs : s.size ≤ 1000000000) :
    Calls Tryd.prog 50 #[.string s] w fun e W' => ∃ v, e = .returned v ∧ W'.ownsRow w.heap.size 5 1 v (encBytes s.data.toList).length (bytesV (encBytes s.data.toList)) ∧ Below w.heap.size w W' := by
  obtain ⟨i0, hi, hz0, hz1, hz2⟩ := info_parts info_u8
  have hle := encInt_le (s.size : Int) (I64.nat hs)
  have hfin : (encBytes s.data.toList) = encInt (s.size : Int) ++ s.data.toList := by unfold encBytes; rw [size_list]
  have HF := Lib.hid hfin
  clear hfin
  go_enter Tryd.func50, Tryd.ntmps50
  go_wp2_with fail
  refine (wInt_any s.size w (by omega) (by omega)).mono ?_
  rintro e w1 ⟨v, rfl, hown, hb⟩
  go_wp2_with (at_builtin; refine Lib.wpList_append_own_string _ rfl _ _ 48 9 rfl w.heap.size 5 i0 Tryd.underlying48 Tryd.underlying9 hi hz0 hz1 hz2 _ _ _ rfl hown s rfl (by unfold maxLen; omega) (by omega) hb.size ?_; intro v' w2 hown' hgrow _)
  go_ret
  refine ⟨_, rfl, ?_, hb.grown hgrow hb.size (fun b e => (hown.lt b e).1)⟩
  rw [HF.out, List.length_append, size_list, bytesV_append, ← strCells_bytes]
  exact hown'

/-- a block that a conversion to bytes made, or any other: its first cells -/
theorem cell_of_block (w : World) (g i : Nat) (cs : Array Value) (t : TypeId) (z : Nat × Nat) (h : w.heap[g]? = some (.cells cs t z)) : w.cell? ⟨g, i, none⟩ = cs[i]? := cell_of_row w g i cs t z h
theorem addr_add0 (g i : Nat) : (⟨g, 0, none⟩ : Addr).add i = ⟨g, i, none⟩ := by
  unfold Addr.add; split <;> simp_all

theorem conv_cells (w : World) (s : ByteArray) (cap : Nat) (t : TypeId) (z : Nat × Nat) (j : Nat) (u : Value) (hu : (bytesV s.data.toList)[j]? = some u) :
    ((w.alloc (.cells (bytesRow s cap) t z)).drew).cell? ((⟨w.heap.size, 0, none⟩ : Addr).add j) = some u := by
  rw [addr_add0]
  have hh : ((w.alloc (.cells (bytesRow s cap) t z)).drew).heap[w.heap.size]? = some (.cells (bytesRow s cap) t z) := heap_alloc_new w _
  rw [cell_of_block _ _ _ _ _ _ hh]
  unfold bytesRow
  have hl : j < (bytesV s.data.toList).length := (List.getElem?_eq_some_iff.1 hu).1
  rw [bytesV_length] at hl
  rw [Array.getElem?_append_left (by simpa using hl)]
  rw [bytesV_get] at hu
  simpa using hu

end Go.Proofs.YtnionejefpnfoaaDoor
