/- LinkRuns: the contracts at its calls. No condition but sizes. -/
import Derived.Test.YtbekkndkdfmijaaMr
set_option linter.unusedSimpArgs false
set_option linter.unusedVariables false
namespace Go.Proofs.Ytbekkndkdfmijaa
open Go.RowKit Go

set_option maxRecDepth 100000 in
theorem eql_nil24r (W : World) (A : Option Addr) (n c : Nat) : (binOp .eql 24 (.slice A n c) (.slice none 0 0)).run Try.prog W = .ok (.bool A.isNone) W := by
  exact Lib.run_eql_slice_nil W 24 35 A n c 0 0 Try.underlying24
section
variable {w W W2 : World} {col : Nat → Nat} {eb mb N k key i : Nat} {g h r : Nat → Nat} {E F : Nat → EndV} {S : Nat → List (List UInt8)} {P : List (List UInt8)} {T : List Int} {vp vt : Value}
theorem Mid.cells (M : Mid w col W eb g h mb r N E F S P T vp vt) (hk : k < 2) : ∀ W2, Ok W W2 → W2.cell? ⟨eb, k, none⟩ = some (.pointer (some ⟨g k, 0, none⟩)) ∧ W2.cell? ⟨mb, k, none⟩ = some (.pointer (some ⟨r k, 0, none⟩)) :=
  fun W2 hW => ⟨(M.ok hW).sys.cell hk, (M.ok hW).mcell hk⟩
theorem run_send {b0 : Nat} {l : List UInt8} (M : Hid (Mid w col W eb g h mb r N E F S P T vp vt)) (hk : k < 2) (HB : Hid (Byt W (some ⟨b0, 0, none⟩) 2 l)) (hw : (E k).wait.length < 1000) : ∀ W2, Ok W W2 →
    Calls Try.prog 11 #[.pointer (some ⟨g k, 0, none⟩), .slice (some ⟨b0, 0, none⟩) 2 2] W2 fun e W' => e = .returned (.int .i64 0) ∧ ∃ col', Hid (Mid w col' W' eb g h mb r N (upd E k { E k with wait := (E k).wait ++ [l] }) F S P T vp vt) ∧ Hid (Byt W' (some ⟨b0, 0, none⟩) 2 l) := fun W2 hW =>
  (mid_send (M.out.ok hW) hk (HB.out.u8 (U8.bel hW)).reads (by omega) hw).mono fun e W' h1 => ⟨h1.1, _, h1.2.1, Lib.hid ((HB.out.u8 (U8.bel hW)).u8 h1.2.2.u8)⟩
theorem run_rsend {b0 : Nat} {l : List UInt8} (M : Hid (Mid w col W eb g h mb r N E F S P T vp vt)) (hk : k < 2) (HB : Hid (Byt W (some ⟨b0, 0, none⟩) 2 l)) (hw : (F k).wait.length < 1000) (hS : (S k).length ≤ 100000) : ∀ W2, Ok W W2 →
    Calls Try.prog 12 #[.pointer (some ⟨r k, 0, none⟩), .slice (some ⟨b0, 0, none⟩) 2 2] W2 fun e W' => e = .returned (.int .i64 0) ∧ ∃ col', Hid (Mid w col' W' eb g h mb r N E (upd F k { F k with wait := (F k).wait ++ [l] }) (upd S k (S k ++ [l])) P T vp vt) := fun W2 hW =>
  (mid_rsend (M.out.ok hW) hk ⟨_, _, _, rfl, Nat.le_refl _, HB.out.u8 (U8.bel hW)⟩ (by omega) hw hS).mono fun e W' h1 => ⟨h1.1, _, h1.2.1⟩
/-- a fresh copy of bytes -/
theorem run_few {A : Option Addr} {n c : Nat} {l : List UInt8} (HB : Hid (Byt W A n l)) (hnc : n ≤ c) (h0 : 0 < n) (hn : n ≤ 1000) : ∀ W2, Ok W W2 →
    Calls Try.prog 16 #[.slice A n c, .int .i64 (n : Int)] W2 fun e W' => ∃ xb cb cs, e = .returned (.slice (some ⟨xb, 0, none⟩) n cb) ∧ Hid (Blk W' xb 5 cs ∧ (∀ (j : Nat) u, (bytesV l)[j]? = some u → cs[j]? = some u) ∧ n ≤ cb ∧ W2.heap.size ≤ xb) ∧ Below W2.heap.size W2 W' := fun W2 hW => by
  have hl := (HB.out.u8 (U8.bel hW)).reads
  have el := HB.out.1
  refine (few_any A n c n l W2 hl hnc (by unfold maxLen; omega) (by omega)).mono ?_
  rintro e W' ⟨v, rfl, ho, hb⟩
  rw [List.take_of_length_le (by omega), el] at ho
  obtain ⟨xb, cb, cs, rfl, h1, h2, h3, -, h5⟩ := own_open ho h0
  exact ⟨xb, cb, cs, rfl, Lib.hid ⟨h2, h5, h3, h1⟩, hb⟩
theorem byt_blk {W : World} {b n : Nat} {cs : Array Value} {l : List UInt8} (k : Blk W b 5 cs) (hl : l.length = n) (hc : ∀ (j : Nat) u, (bytesV l)[j]? = some u → cs[j]? = some u) : Byt W (some ⟨b, 0, none⟩) n l :=
  ⟨hl, fun _ => ⟨_, _, _, rfl, k, fun j u hu => by rw [addr_add0]; exact k.at_ (hc j u hu)⟩⟩
theorem byt_set {W : World} {b n j : Nat} {cs : Array Value} {l : List UInt8} (k : Blk W b 5 cs) (hl : l.length = n) (hc : ∀ (j : Nat) u, (bytesV l)[j]? = some u → cs[j]? = some u) (x : UInt8) {z : Int} (hz : z = (x.toNat : Int)) :
    Byt (W.setCell ⟨b, j, none⟩ (.int .u8 z)) (some ⟨b, 0, none⟩) n (l.set j x) := by
  subst hz
  refine byt_blk (k.set_ j _) (by rw [List.length_set]; exact hl) fun i u hu => ?_
  rw [bytesV_set, List.getElem?_set] at hu
  rw [Array.getElem?_setIfInBounds]
  by_cases e : j = i
  · subst e
    rw [if_pos rfl] at hu ⊢
    split at hu
    · rename_i h
      have h1 := hc j _ (List.getElem?_eq_getElem h)
      rw [if_pos (Array.getElem?_eq_some_iff.1 h1).1]
      exact hu
    · cases hu
  · rw [if_neg e] at hu ⊢
    exact hc i u hu
/-- the reference's packet, sealed -/
theorem run_pkt {A : Option Addr} {n c : Nat} {l : List UInt8} (s a : Int) (hs : I64 s) (ha : I64 a) (HB : Hid (Byt W A n l)) (hn : n ≤ 100) :
    Calls Try.prog 18 #[.agg #[.int .i64 s, .int .i64 a, .slice A n c]] W fun e W' => ∃ A' N c', e = .returned (.slice A' N c') ∧ Hid (Byt W' A' N (pktB s a l)) ∧ Below W.heap.size W W' := by
  have hm := HB.out.1
  refine (rPkt_any s a A n c l W hs ha HB.out.reads (by omega)).mono ?_
  rintro e W' ⟨v, rfl, ho, hbl⟩
  obtain ⟨A', c', rfl, -, -, -⟩ := own_slice ho
  exact ⟨A', _, c', rfl, Lib.hid (Byt.of_own ho), hbl⟩
theorem run_seal {A : Option Addr} {n c : Nat} {l : List UInt8} (s a : Int) (hs : I64 s) (ha : I64 a) (hl : l.length ≤ 100) (HB : Hid (Byt W A n (pktB s a l))) (hk : key < 18446744073709551616) :
    Calls Try.prog 17 #[.int .u64 (key : Int), .slice A n c] W fun e W' => ∃ A' N c' L, e = .returned (.slice A' N c') ∧ Hid (Byt W' A' N L) ∧ (11 ≤ N ∧ N ≤ 2000 ∧ N ≤ c') ∧ Below W.heap.size W W' := by
  have h1 := pktB_le s a l hs ha (by omega)
  have h2 := pktB_ge s a l
  have h3 := HB.out.1
  refine (rSeal_any key A n c _ W hk HB.out.reads (by omega)).mono ?_
  rintro e W' ⟨v, rfl, ho, hb⟩
  have hlen := sealL_length key (pktB s a l)
  obtain ⟨A', c', rfl, hc, -, -⟩ := own_slice ho
  exact ⟨A', _, c', _, rfl, Lib.hid (Byt.of_own ho), ⟨by omega, by omega, hc⟩, hb⟩
end
end Go.Proofs.Ytbekkndkdfmijaa
