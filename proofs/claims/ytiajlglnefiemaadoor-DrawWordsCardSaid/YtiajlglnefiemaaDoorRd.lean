/- The reference's SHA-256: Short, Input, Of. Conditions: its round constants lie in their variable; the parts are short. -/
import Derived.Test.YtiajlglnefiemaaDoorRc
set_option linter.unusedSimpArgs false
set_option linter.unusedVariables false
namespace Go.Proofs.YtiajlglnefiemaaDoor
open Go.RowKit

set_option maxRecDepth 100000 in
set_option maxHeartbeats 4000000 in
theorem rInput_any (d : Int) (A : Option Addr) (n c : Nat) (l : List ByteArray) (w : World) (hl : Reads w w.heap.size 1 A n (strs l)) (hs : sizes l ≤ 50000) (hd1 : 0 ≤ d) (hd2 : d ≤ 255) :
    Calls Tryd.prog 84 #[.int .i64 d, .slice A n c] w fun e W' => ∃ v, e = .returned v ∧ W'.ownsRow w.heap.size 5 1 v (ofM d l).length (bytesV (ofM d l)) ∧ Below w.heap.size w W' := by
  obtain ⟨i0, hi, hz0, hz1, hz2⟩ := info_parts info_u8
  have el := hl.str_len
  subst el
  have hll : (l.length : Int) ≤ 1000000 := by have := sizes_len l; omega
  have hd3 : IntKind.u8.wrap d = d := by simp [IntKind.wrap, IntKind.signed, IntKind.bits]; omega
  go_enter Tryd.func84, Tryd.ntmps84
  go_wp2_with fail
  have o0 : (w.alloc (.cells #[.int .u8 d] 5)).ownsRow w.heap.size 5 1 (.slice (some ⟨w.heap.size, 0, none⟩) 1 1) (ofM d (l.take 0)).length (bytesV (ofM d (l.take 0))) := by
    have := own_new w 5 #[.int .u8 d] w.heap.size (Nat.le_refl _) (by unfold maxLen; simp)
    have e : bytesV (ofM d (l.take 0)) = [.int .u8 d] := by
      rw [List.take_zero, ofM, show catS [] = [] from rfl, bytesV_cons, byt_toNat (by omega)]
      show [Value.int .u8 (((d % 256).toNat : Nat) : Int)] = _
      rw [show (((d % 256).toNat : Nat) : Int) = d by omega]
    rw [e]
    exact this
  go_loopw [5, 6] (fun v i wr => ∃ j : Nat, j ≤ l.length ∧ i = .int .i64 (j : Int) ∧ wr.ownsRow w.heap.size 5 1 v (ofM d (l.take j)).length (bytesV (ofM d (l.take j))) ∧ Below w.heap.size w wr) (fun _ i _ => (l.length - intOf i).toNat)
  case atStart => exact ⟨0, by omega, rfl, o0, (Below.refl _ w).alloc (Nat.le_refl _) _⟩
  case round =>
    clear o0
    obtain ⟨j, hj, rfl, ho, hb⟩ := hrel
    by_cases hlt : j < l.length
    · obtain ⟨ad, rfl, -, -, hc⟩ := (hl.below hb).str_at hlt
      have hji : (j : Int) < (l.length : Int) := by omega
      have hx := size_at hlt (Nat.le_trans hs (by omega : 50000 ≤ 1000000))
      have hct := catS_take l j hlt
      have hml : (ofM d (l.take j)).length ≤ 10000000 := by
        have h1 := catS_le (l.take j) (Nat.le_trans (sizes_take l j) (Nat.le_trans hs (by omega : 50000 ≤ 1000000)))
        have h2 := sizes_take l j
        unfold ofM
        rw [List.length_cons]
        omega
      have hxs : sizes l ≤ 50000 := hs
      have hof : ofM d (l.take (j + 1)) = ofM d (l.take j) ++ encBytes (l[j]?.getD ByteArray.empty).data.toList := by unfold ofM; rw [hct]; rfl
      have hel := encBytes_le (l[j]?.getD ByteArray.empty) (by omega)
      generalize l[j]?.getD ByteArray.empty = x at *
      have HOF := Lib.hid hof
      have HML := Lib.hid hml
      have HEL := Lib.hid hel
      clear hct hof hml hel
      go_wp2_with fail
      refine (rBytes_any x wr (by omega)).mono ?_
      rintro E w2 ⟨v2, rfl, o2, b2⟩
      obtain ⟨A2, c2, rfl, hc2, -, -⟩ := own_slice o2
      have r2 := Reads.of_own o2
      have o1 := own_thru0 ho b2
      have hb2 := hb.trans (b2.mono hb.size)
      clear o2
      go_wp2_with (at_builtin; refine wpList_append_reads _ rfl _ _ 45 rfl w.heap.size 5 i0 (.int .u8 0) 1 1 Tryd.underlying45 hi hz0 hz1 hz2 rfl (by decide) _ _ _ rfl o1 _ A2 _ c2 _ rfl r2 (bytesV_one _) (by have := HML.out; have := HEL.out; unfold maxLen; omega) (by have := HML.out; have := HEL.out; omega) hb2.size ?_; intro v3 w3 o3 g3)
      have hb3 : Below w.heap.size w w3 := hb2.grown g3 hb2.size (fun k e => (o1.lt k e).1)
      rw [← bytesV_append, ← List.length_append, ← HOF.out] at o3
      go_roundw
      case rel => exact ⟨j + 1, by omega, by go_num, o3, hb3⟩
      case measure => simp [intOf]; omega
    · obtain rfl : j = l.length := by omega
      rw [List.take_length] at ho
      go_wp2_with fail
      go_ret
      exact ⟨_, rfl, ho, hb⟩

/-- the bytes of a hash, j of them written -/
def shortV (H : List UInt8) (j : Nat) : Array Value := (bytesV (H.take j) ++ List.replicate (16 - j) (Value.int .u8 0)).toArray
theorem shortV_at {H : List UInt8} {j : Nat} (hj : j < 16) (hH : H.length = 32) : (shortV H j)[j]? = some (.int .u8 0) := by
  unfold shortV
  rw [List.getElem?_toArray, List.getElem?_append_right (by rw [bytesV_length, List.length_take]; omega), bytesV_length, List.length_take]
  rw [List.getElem?_replicate, if_pos (by omega)]
theorem shortV_set {H : List UInt8} {j : Nat} (hj : j < 16) (hH : H.length = 32) : (shortV H j).setIfInBounds j (.int .u8 (((H[j]?.getD 0).toNat : Nat) : Int)) = shortV H (j + 1) := by
  unfold shortV
  have hl : (bytesV (H.take j)).length = j := by rw [bytesV_length, List.length_take]; omega
  have e : H.take (j + 1) = H.take j ++ [H[j]?.getD 0] := by rw [List.take_add_one, List.getElem?_eq_getElem (by omega)]; rfl
  rw [List.setIfInBounds_toArray, e, bytesV_append, List.set_append_right _ _ (by omega), hl, Nat.sub_self, show 16 - j = (16 - (j + 1)) + 1 by omega, List.replicate_succ, List.set_cons_zero, List.append_assoc]
  rfl
/-- what holds while the first 16 bytes are copied -/
structure RShort (w : World) (gS : Nat) (H : List UInt8) (S : Array Value) (j : Nat) (wr : World) : Prop where
  b : Below w.heap.size w wr
  r : Blk wr w.heap.size 43 Z16
  s : Blk wr gS 82 S
  o : Blk wr (gS + 1) 43 (shortV H j)
  z : w.heap.size < gS
theorem RShort.put {w wr : World} {gS j : Nat} {H : List UInt8} {S : Array Value} (h : RShort w gS H S j wr) (hj : j < 16) (hH : H.length = 32) :
    RShort w gS H S (j + 1) (wr.setCell ⟨gS + 1, j, none⟩ (.int .u8 (((H[j]?.getD 0).toNat : Nat) : Int))) := by
  have hz := h.z
  refine ⟨h.b.setCell (by simp; omega) _, h.r.far (by simp; omega) _, h.s.far (by simp) _, ?_, hz⟩
  rw [← shortV_set hj hH]
  exact h.o.set_ j _
set_option maxRecDepth 100000 in
set_option maxHeartbeats 4000000 in
theorem rShort_any (A : Option Addr) (n c : Nat) (m : List UInt8) (w : World) (hl : Reads w w.heap.size 1 A n (bytesV m)) (hn : n ≤ 1000000) (hnc : n ≤ c) (hK : RConsts w) (h1 : 1 < w.heap.size) :
    Calls Tryd.prog 83 #[.slice A n c] w fun e W' => e = .returned (.agg (bytesV ((sha m).take 16)).toArray) ∧ Below w.heap.size w W' := by
  have hH : (sha m).length = 32 := outTo_length _ 32
  have hsum := fun W (hb : Below w.heap.size w W) => rSum_any A n c m W ((hl.below hb).more hb.size) hn hnc (hK.below (hb.mono (by omega))) (Nat.lt_of_lt_of_le h1 hb.size)
  generalize sha m = H at *
  obtain ⟨R, hR⟩ : ∃ R, R = (bytesV (H.take 16)).toArray := ⟨_, rfl⟩
  rw [← hR]
  have hR2 : shortV H 16 = R := by rw [hR]; unfold shortV; simp
  obtain ⟨S, hS⟩ : ∃ S, S = (bytesV H).toArray := ⟨_, rfl⟩
  rw [← hS] at hsum
  have F0 : Hid (S.size = 32) := Lib.hid (by rw [hS, List.size_toArray, bytesV_length, hH])
  have F1 : Hid ((Tryd.prog.info? 82).map (·.size) = some S.size) := Lib.hid (by rw [F0.out]; exact info82)
  have F2 : Hid (S.all (·.oneCell') = true) := Lib.hid (by rw [hS]; exact all_oneCell_toArray (bytesV_one _))
  have F4 : Hid (R.size = 16) := Lib.hid (by rw [hR, List.size_toArray, bytesV_length, List.length_take, hH]; rfl)
  have F5 : Hid (R.all (·.oneCell') = true) := Lib.hid (by rw [hR]; exact all_oneCell_toArray (bytesV_one _))
  have G1 : Hid ((Tryd.prog.info? 43).map (·.size) = some R.size) := Lib.hid (by rw [F4.out]; exact info43)
  have G2 : Hid (Z16.size = R.size) := Lib.hid (by rw [F4.out]; rfl)
  have HS := Lib.hid hS
  have HR2 := Lib.hid hR2
  have HSUM := Lib.hid hsum
  clear hS hR hR2 hsum hl
  go_enter Tryd.func83, Tryd.ntmps83
  go_wp2_with fail
  refine (HSUM.out _ ((Below.refl _ w).alloc (Nat.le_refl _) _)).mono ?_
  rintro E w1 ⟨rfl, b1⟩
  go_wp2_with (first
    | ((with_reducible refine wpList_store_row rfl 82 _ _ rfl w1.heap.size S rfl rfl 82 _ (heap_alloc_new w1 _) F1.out ?_ F2.out ?_); (focus (rw [F0.out]; rfl))))
  refine wp_world fun wb hwb => ?_
  have I0 : RShort w w1.heap.size H S 0 wb := by
    rw [hwb]
    have ok1 : Below w.heap.size w w1 := ((Below.refl _ w).alloc (Nat.le_refl _) _).trans (b1.mono (by rw [World.size_alloc]; omega))
    have hlt : w.heap.size < w1.heap.size := by have := b1.size; rw [World.size_alloc] at this; omega
    have hz : Blk w1 w.heap.size 43 Z16 := (Blk.new w 43 Z16).thru b1
    refine ⟨?_, ?_, ?_, ?_, hlt⟩
    · exact (below_setRow (ok1.alloc ok1.size _) ok1.size S).alloc (by rw [setRow_size, World.size_alloc]; omega) _
    · exact (((hz.alloc _).rowFar (by omega) S).alloc _)
    · exact ((Blk.new w1 82 _).row S).alloc _
    · exact Blk.new' (by rw [setRow_size, World.size_alloc])
  clear hwb b1
  generalize w1.heap.size = gS at *
  go_loopw [5] (fun i wr => ∃ j : Nat, j ≤ 16 ∧ i = .int .i64 (j : Int) ∧ RShort w gS H S j wr) (fun i _ => (16 - intOf i).toNat)
  case atStart => exact ⟨0, by omega, rfl, I0⟩
  case round =>
    clear I0
    obtain ⟨j, hj, rfl, hI⟩ := hrel
    by_cases hlt : j < 16
    · have hji : (j : Int) < 16 := by omega
      have hj32 : (j : Int) < 32 := by omega
      have hc : wr.cell? ⟨gS, j, none⟩ = some (.int .u8 (((H[j]?.getD 0).toNat : Nat) : Int)) := hI.s.at_ (by
        rw [HS.out, List.getElem?_toArray, bytesV_get, List.getElem?_eq_getElem (by omega)]; rfl)
      have hd : wr.cell? ⟨gS + 1, j, none⟩ = some (.int .u8 0) := hI.o.at_ (shortV_at hlt hH)
      have hf := hI.o.frozen j
      have hI2 := hI.put hlt hH
      have h256 := (H[j]?.getD 0).toNat_lt
      generalize (H[j]?.getD 0).toNat = x at *
      go_wp2_with fail
      go_roundw
      case rel => exact ⟨j + 1, by omega, by go_num, hI2⟩
      case measure => simp [intOf]; omega
    · obtain rfl : j = 16 := by omega
      obtain ⟨ib, ir, is, io, iz⟩ := hI
      rw [HR2.out] at io
      go_wp2_with (first
        | (with_reducible refine wpList_load_row rfl 43 _ rfl (gS + 1) rfl 43 R (0, 0) _ io.heap_ Tryd.underlying43 rfl G1.out ?_)
        | (with_reducible refine wpList_store_row rfl 43 _ _ rfl w.heap.size R rfl rfl 43 Z16 ir.heap_ G1.out G2.out F5.out ?_))
      refine ret_row (g := w.heap.size) (cs := R) (t := 43) Tryd.results83 ?_ (ir.row R) rfl Tryd.underlying43 G1.out ?_ ?_
      · rfl
      · rfl
      · exact ⟨rfl, below_setRow ib (Nat.le_refl _) R⟩
set_option maxRecDepth 100000 in
set_option maxHeartbeats 4000000 in
theorem rOf_any (d : Int) (A : Option Addr) (n c : Nat) (l : List ByteArray) (w : World) (hl : Reads w w.heap.size 1 A n (strs l)) (hs : sizes l ≤ 50000) (hd1 : 0 ≤ d) (hd2 : d ≤ 255) (hK : RConsts w) (h1 : 1 < w.heap.size) :
    Calls Tryd.prog 59 #[.int .i64 d, .slice A n c] w fun e W' => e = .returned (.agg (bytesV (ofH d l)).toArray) ∧ Below w.heap.size w W' := by
  have hin := fun W (hb : Below w.heap.size w W) => rInput_any d A n c l W ((hl.below hb).more hb.size) hs hd1 hd2
  have hml : (ofM d l).length ≤ 1000000 := by
    have h := catS_le l (by omega)
    unfold ofM
    rw [List.length_cons]; omega
  have hH : ofH d l = (sha (ofM d l)).take 16 := rfl
  rw [hH]
  generalize ofM d l = m at *
  obtain ⟨R, hR⟩ : ∃ R, R = (bytesV ((sha m).take 16)).toArray := ⟨_, rfl⟩
  have hsh := fun A n c W h1 h2 h3 h4 h5 => rShort_any A n c m W h1 h2 h3 h4 h5
  rw [← hR] at hsh ⊢
  have hl16 : (bytesV ((sha m).take 16)).length = 16 := by rw [bytesV_length, List.length_take, show (sha m).length = 32 from outTo_length _ 32]; rfl
  have F4 : Hid (R.size = 16) := Lib.hid (by rw [hR, List.size_toArray, hl16])
  have F5 : Hid (R.all (·.oneCell') = true) := Lib.hid (by rw [hR]; exact all_oneCell_toArray (bytesV_one _))
  have G1 : Hid ((Tryd.prog.info? 43).map (·.size) = some R.size) := Lib.hid (by rw [F4.out]; exact info43)
  have G2 : Hid (Z16.size = R.size) := Lib.hid (by rw [F4.out]; rfl)
  have HSH := Lib.hid hsh
  have HIN := Lib.hid hin
  clear hR hsh hin hl16 hl
  go_enter Tryd.func59, Tryd.ntmps59
  go_wp2_with fail
  refine (HIN.out _ ((Below.refl _ w).alloc (Nat.le_refl _) _)).mono ?_
  rintro E w1 ⟨v, rfl, o1, b1⟩
  have ok1 : Below w.heap.size w w1 := ((Below.refl _ w).alloc (Nat.le_refl _) _).trans (b1.mono (by rw [World.size_alloc]; omega))
  have hz : Blk w1 w.heap.size 43 Z16 := (Blk.new w 43 Z16).thru b1
  obtain ⟨A2, c2, rfl, hc2, -, -⟩ := own_slice o1
  go_wp2_with fail
  refine (HSH.out _ _ _ w1 (Reads.of_own o1) (by omega) hc2 (hK.below (ok1.mono (by omega))) (Nat.lt_of_lt_of_le h1 ok1.size)).mono ?_
  rintro E w2 ⟨rfl, b2⟩
  have ok2 : Below w.heap.size w w2 := ok1.trans (b2.mono ok1.size)
  have hz2 := hz.thru b2
  clear o1 hz
  go_wp2_with (first
    | (with_reducible refine wpList_store_row rfl 43 _ _ rfl w.heap.size R rfl rfl 43 Z16 hz2.heap_ G1.out G2.out F5.out ?_))
  refine ret_row (g := w.heap.size) (cs := R) (t := 43) Tryd.results59 ?_ (hz2.row R) rfl Tryd.underlying43 G1.out ?_ ?_
  · rfl
  · rfl
  · exact ⟨rfl, below_setRow ok2 (Nat.le_refl _) R⟩
end Go.Proofs.YtiajlglnefiemaaDoor
