/- SHA-256 of a message: the specification, and the walk of Sum. Conditions: the round constants lie in their variable; the message is short. -/
import Derived.Test.YtnionejefpnfoaaDoorHf
namespace Go.Proofs.YtnionejefpnfoaaDoor
open Go.RowKit
attribute [local go_sem] zeroValue73
attribute [local simp] zeroCells73_ne

/-- how many zeros the padding has -/
def zeros (n : Nat) : Nat := (119 - n % 64) % 64
theorem zeros_at (n : Nat) : (n + 1 + zeros n) % 64 = 56 := by unfold zeros; omega
theorem zeros_min (n j : Nat) (h : j < zeros n) : (n + 1 + j) % 64 ≠ 56 := by unfold zeros at h; omega
theorem zeros_lt (n : Nat) : zeros n < 64 := by unfold zeros; omega
/-- the length in bits, i bytes of it -/
def lenB (n i : Nat) : List UInt8 := (List.range i).map fun j => byt (8 * n / 256 ^ (7 - j) % 256)
theorem lenB_succ (n i : Nat) : lenB n (i + 1) = lenB n i ++ [byt (8 * n / 256 ^ (7 - i) % 256)] := by simp [lenB, List.range_succ]
theorem lenB_length (n i : Nat) : (lenB n i).length = i := by simp [lenB]
/-- the padding of a message of n bytes -/
def padB (n : Nat) : List UInt8 := (128 :: List.replicate (zeros n) 0) ++ lenB n 8
theorem padB_length (n : Nat) : (padB n).length = 9 + zeros n := by simp [padB, lenB_length]; omega
def St.word (q : St) (j : Nat) : UInt32 := nth [q.a, q.b, q.c, q.d, q.e, q.f, q.g, q.h] j
/-- the first i bytes of a hash -/
def outTo (q : St) (i : Nat) : List UInt8 := (List.range i).map fun j => byt ((q.word (j / 4)).toNat / 256 ^ (3 - j % 4) % 256)
theorem outTo_succ (q : St) (i : Nat) : outTo q (i + 1) = outTo q i ++ [byt ((q.word (i / 4)).toNat / 256 ^ (3 - i % 4) % 256)] := by simp [outTo, List.range_succ]
theorem outTo_length (q : St) (i : Nat) : (outTo q i).length = i := by simp [outTo]
/-- THE HASH OF A MESSAGE -/
def shaS (m : List UInt8) : St := stN (m ++ padB m.length) ((m ++ padB m.length).length / 64)
def sha (m : List UInt8) : List UInt8 := outTo (shaS m) 32

/-- what holds while Sum lays the padding -/
structure Sums (w : World) (X Z : Array Value) (v : Value) (L : List UInt8) (wr : World) : Prop where
  b : Below w.heap.size w wr
  s : Blk wr w.heap.size 84 X
  r : Blk wr (w.heap.size + 1) 88 Z
  z : w.heap.size + 2 ≤ wr.heap.size
  o : wr.ownsRow (w.heap.size + 2) 5 1 v L.length (bytesV L)
theorem Sums.push {w wr w1 : World} {X Z : Array Value} {v v' : Value} {L : List UInt8} {x : Nat} {o : Obj} (h : Sums w X Z v L wr)
    (ho : w1.ownsRow (w.heap.size + 2) 5 1 v' (L.length + 1) (bytesV L ++ [.int .u8 (x : Int)])) (hx : x < 256) (hg : (wr.alloc o).grownBy w1 v.ownBlock) : Sums w X Z v' (L ++ [byt x]) w1 := by
  have hne : ∀ k, v.ownBlock = some k → w.heap.size + 2 ≤ k := fun k e => (h.o.lt k e).1
  have hz : (wr.alloc o).heap.size = wr.heap.size + 1 := by simp
  refine ⟨(h.b.alloc h.b.size o).grown hg (by have := h.z; omega) (fun k e => by have := hne k e; omega), (h.s.alloc o).grown hg (fun e => by have := hne _ e.symm; omega), (h.r.alloc o).grown hg (fun e => by have := hne _ e.symm; omega), ?_, ?_⟩
  · have := hg.size; have := h.z; omega
  · rw [List.length_append, bytesV_append]
    have : bytesV [byt x] = [.int .u8 (x : Int)] := by rw [bytesV_cons, byt_toNat hx]; rfl
    rw [this]; exact ho
def sliceLen : Value → Nat
  | .slice _ n _ => n
  | _ => 0

theorem own_conv {w : World} {base : Nat} {v : Value} {E : List UInt8} (h : w.ownsRow base 5 1 v E.length (bytesV E)) (h0 : 0 < E.length) : (convert 48 9 v).run Tryd.prog w = .ok (.string ⟨E.toArray⟩) w := by
  obtain ⟨g, cap, rfl, _, hlt⟩ := h.form h0
  refine run_convert_bytes_back (P := Tryd.prog) w 48 9 5 ⟨g, 0, none⟩ cap E Tryd.underlying48 Tryd.underlying5 Tryd.underlying9 fun j hj => ?_
  refine h.cells (g := g) rfl j _ ?_
  rw [bytesV_get, List.getElem?_eq_getElem hj]; rfl
set_option maxRecDepth 100000 in
theorem own_len {w : World} {base n : Nat} {v : Value} {xs : List Value} (h : w.ownsRow base 5 1 v n xs) (W : World) : (Builtin.len_ #[48] 3 #[v]).run Tryd.prog W = .ok (.int .i64 (n : Int)) W := by
  obtain ⟨A, c, rfl, -, -, -⟩ := own_slice h
  rfl
theorem own_sliceLen {w : World} {base n : Nat} {v : Value} {xs : List Value} (h : w.ownsRow base 5 1 v n xs) : sliceLen v = n := by
  obtain ⟨A, c, rfl, -, -, -⟩ := own_slice h
  rfl
/-- what holds while Sum writes the result -/
structure Outs (w : World) (Y Z : Array Value) (B : Nat) (q : St) (j : Nat) (wr : World) : Prop where
  b : Below w.heap.size w wr
  s : Blk wr w.heap.size 84 Y
  r : Blk wr (w.heap.size + 1) 88 Z
  o : Blk wr B 88 (bytesV (outTo q j) ++ List.replicate (32 - j) (Value.int .u8 0)).toArray
  z : w.heap.size + 2 ≤ B
theorem info82 : (Tryd.prog.info? 88).map (·.size) = some 32 := by kernel_rfl
theorem out_at (q : St) {j : Nat} (h : j < 32) : (bytesV (outTo q j) ++ List.replicate (32 - j) (Value.int .u8 0)).toArray[j]? = some (.int .u8 0) := by
  rw [List.getElem?_toArray, List.getElem?_append_right (by rw [bytesV_length, outTo_length]; omega), bytesV_length, outTo_length, Nat.sub_self]
  rw [List.getElem?_replicate, if_pos (by omega)]
theorem Outs.put {w wr : World} {Y Z : Array Value} {B j x : Nat} {q : St} (h : Outs w Y Z B q j wr) (hj : j < 32) (e : outTo q (j + 1) = outTo q j ++ [byt x]) (hx : x < 256) :
    Outs w Y Z B q (j + 1) (wr.setCell ⟨B, j, none⟩ (.int .u8 (x : Int))) := by
  have hz := h.z
  refine ⟨h.b.setCell (by simp; omega) _, h.s.far (by simp; omega) _, h.r.far (by simp; omega) _, ?_, h.z⟩
  have := h.o.set_ j (.int .u8 (x : Int))
  have e2 : (bytesV (outTo q j) ++ List.replicate (32 - j) (Value.int .u8 0)).toArray.setIfInBounds j (.int .u8 (x : Int)) = (bytesV (outTo q (j + 1)) ++ List.replicate (32 - (j + 1)) (Value.int .u8 0)).toArray := by
    have hb : bytesV [byt x] = [.int .u8 (x : Int)] := by rw [bytesV_cons, byt_toNat hx]; rfl
    have hl : (bytesV (outTo q j)).length = j := by rw [bytesV_length, outTo_length]
    rw [List.setIfInBounds_toArray, e, bytesV_append, hb, List.set_append_right _ _ (by omega), hl, Nat.sub_self, show 32 - j = (32 - (j + 1)) + 1 by omega, List.replicate_succ, List.set_cons_zero, List.append_assoc]
    rfl
  rw [e2] at this
  exact this
set_option maxRecDepth 100000 in
set_option maxHeartbeats 8000000 in
theorem sum_any (m bl : List UInt8) (w : World) (hB : IsStr m bl) (hlen : m.length ≤ 100000000000) (hK : Consts w) (h0 : 0 < w.heap.size) :
    Calls Tryd.prog 51 #[.agg (strm (stN m (m.length / 64)) bl m.length).toArray] w fun e W' => e = .returned (.agg (bytesV (sha m)).toArray) ∧ Below w.heap.size w W' := by
  obtain ⟨X, hX⟩ : ∃ X, X = (strm (stN m (m.length / 64)) bl m.length).toArray := ⟨_, rfl⟩
  rw [← hX]
  have HX := Lib.hid hX
  clear hX
  obtain ⟨R, hR⟩ : ∃ R, R = (bytesV (sha m)).toArray := ⟨_, rfl⟩
  rw [← hR]
  have HR := Lib.hid hR
  clear hR
  obtain ⟨i0, hi, hz0, hz1, hz2⟩ := info_parts info_u8
  have p72 : ∀ w1, Blk w1 w.heap.size 84 X → w1.cell? ⟨w.heap.size, 72, none⟩ = some (.int .u64 (m.length : Int)) := fun w1 h => h.at_ (by rw [HX.out]; exact strm_last _ _ _ hB.1)
  have p0 : ∀ o, ((w.alloc (.cells X 84)).alloc o).cell? ⟨w.heap.size, 72, none⟩ = some (.int .u64 (m.length : Int)) := fun o => p72 _ ((Blk.new w 84 X).alloc o)
  have hml : (m.length : Int) ≤ 100000000000 := by omega
  go_enter Tryd.func51, Tryd.ntmps51
  go_wp2_with fail
  refine wp_world fun wb hwb => ?_
  obtain ⟨Z, hZ⟩ : ∃ Z : Array Value, Z = (List.replicate 32 (Value.int .u8 0)).toArray := ⟨_, rfl⟩
  have hw2 : wb = ((w.alloc (.cells X 84)).alloc (.cells Z 88)).alloc (.cells #[.int .u8 128] 5) := by rw [hwb, hZ]; rfl
  have A0 : Sums w X Z (.slice (some ⟨w.heap.size + 2, 0, none⟩) 1 1) [128] wb := by
    rw [hw2]
    refine ⟨(((Below.refl _ w).alloc (Nat.le_refl _) _).alloc (by simp) _).alloc (by simp; omega) _, ((Blk.new w 84 X).alloc _).alloc _, ?_, by simp, ?_⟩
    · have := (Blk.new (w.alloc (.cells X 84)) 88 Z).alloc (.cells #[.int .u8 128] 5); simpa using this
    · have := own_new ((w.alloc (.cells X 84)).alloc (.cells Z 88)) 5 #[.int .u8 128] (w.heap.size + 2) (by simp) (by unfold maxLen; simp)
      simpa [bytesV] using this
  have hz : Z.size = 32 := by rw [hZ]; rfl
  have HZ := Lib.hid hz
  clear hwb hw2 hz hZ p0
  go_loopw [4] (fun v wr => ∃ j : Nat, j ≤ zeros m.length ∧ Sums w X Z v (128 :: List.replicate j 0) wr) (fun v _ => zeros m.length + 2 - sliceLen v)
  case atStart => exact ⟨0, by omega, A0⟩
  case round =>
    clear A0
    obtain ⟨j, hj, hA⟩ := hrel
    have zl := zeros_lt m.length
    have h72 := p72 wr hA.s
    have hLL : (128 :: List.replicate j (0 : UInt8)).length = j + 1 := by simp
    have hL : ∀ W, _ := own_len hA.o
    have hsl := own_sliceLen hA.o
    rw [hLL] at hL hsl
    by_cases hlt : j < zeros m.length
    · have t1 : ((m.length : Int) + ((j : Int) + 1)) % 64 ≠ 56 := by have := zeros_min m.length j hlt; omega
      go_wp2_with (at_builtin; refine wpList_append_own _ rfl _ _ 48 rfl (w.heap.size + 2) 5 i0 (.int .u8 0) 1 1 Tryd.underlying48 hi hz0 hz1 hz2 rfl (by decide) _ _ _ rfl (hA.o.alloc _) ⟨wr.heap.size, 0, none⟩ 1 1 [.int .u8 0] rfl rfl (cell_one_new _ _ _) (by simp [Value.oneCell']) (by unfold maxLen; simp; omega) (by omega) (by have := hA.z; simp; omega) ?_; intro v' w1 hown' hgrow _)
      go_roundw
      case rel => exact ⟨j + 1, by omega, by rw [List.replicate_succ', ← List.cons_append]; exact hA.push (x := 0) hown' (by omega) hgrow⟩
      case measure => have := own_sliceLen hown'; rw [hLL] at this; omega
    · have hjz : j = zeros m.length := by omega
      have t1 : ((m.length : Int) + ((j : Int) + 1)) % 64 = 56 := by have := zeros_at m.length; omega
      clear hlt hsl hLL
      subst hjz
      go_wp2_with fail
      clear t1 hL h72
      obtain ⟨PZ, hPZ⟩ : ∃ PZ : List UInt8, PZ = 128 :: List.replicate (zeros m.length) 0 := ⟨_, rfl⟩
      have hPl : PZ.length = zeros m.length + 1 := by rw [hPZ]; simp
      rw [← hPZ] at hA
      have HPZ := Lib.hid hPZ
      clear hPZ hj
      go_loopw [4, 23] (fun v i wr => ∃ j : Nat, j ≤ 8 ∧ i = .int .i64 (j : Int) ∧ Sums w X Z v (PZ ++ lenB m.length j) wr) (fun _ i _ => (8 - intOf i).toNat)
      case atStart => exact ⟨0, by omega, rfl, by simpa [lenB] using hA⟩
      case round =>
        clear hA
        obtain ⟨j, hj, rfl, hA⟩ := hrel
        have hLL : (PZ ++ lenB m.length j).length ≤ 100 := by rw [List.length_append, lenB_length]; omega
        by_cases hlt : j < 8
        · have hji : (j : Int) < 8 := by omega
          have hj0 : 0 ≤ 56 - 8 * (j : Int) := by omega
          have hd : 8 * (m.length : Int) / 2 ^ (56 - 8 * j) % 256 = ((8 * m.length / 256 ^ (7 - j) % 256 : Nat) : Int) := by
            rw [show 56 - 8 * j = 8 * (7 - j) by omega, pow_256]; simp
          have HS := Lib.hid (lenB_succ m.length j)
          go_wp2_with (at_builtin; refine wpList_append_own _ rfl _ _ 48 rfl (w.heap.size + 2) 5 i0 (.int .u8 0) 1 1 Tryd.underlying48 hi hz0 hz1 hz2 rfl (by decide) _ _ _ rfl (hA.o.alloc _) ⟨wr.heap.size, 0, none⟩ 1 1 [.int .u8 ((8 * m.length / 256 ^ (7 - j) % 256 : Nat) : Int)] rfl rfl (cell_one_new _ _ _) (by simp [Value.oneCell']) (by unfold maxLen; omega) (by omega) (by have := hA.z; simp; omega) ?_; intro v' w1 hown' hgrow _)
          go_roundw
          case rel => exact ⟨j + 1, by omega, by go_num, by rw [HS.out, ← List.append_assoc]; exact hA.push hown' (Nat.mod_lt _ (by omega)) hgrow⟩
          case measure => simp [intOf]; omega
        · have hj8 : j = 8 := by omega
          subst hj8
          have ep : PZ ++ lenB m.length 8 = padB m.length := by rw [HPZ.out]; rfl
          rw [ep] at hA
          clear hlt hLL hj ep hPl HPZ
          have hcv := own_conv (v := _) hA.o (by rw [padB_length]; omega)
          have hAdd := add_any m bl ⟨(padB m.length).toArray⟩ wr hB (by rw [← size_list]; simp [padB_length]; omega) (hK.below (hA.b.mono h0)) (Nat.lt_of_lt_of_le h0 hA.b.size)
          rw [← HX.out] at hAdd
          obtain ⟨T, hT⟩ : ∃ T : ByteArray, T = ⟨(padB m.length).toArray⟩ := ⟨_, rfl⟩
          obtain ⟨M, hM⟩ : ∃ M : List UInt8, M = m ++ T.data.toList := ⟨_, rfl⟩
          rw [← hT] at hcv hAdd
          rw [← hM] at hAdd
          have hMe : M = m ++ padB m.length := by rw [hM, hT]
          have HM := Lib.hid hMe
          clear hT hM hMe
          have G1 : Hid ((Tryd.prog.info? 84).map (·.size) = some X.size) := Lib.hid (by rw [HX.out, List.size_toArray, strm_length _ _ hB.1]; exact info73)
          go_wp2_with (first
            | (with_reducible refine wpList_load_row rfl 84 _ rfl w.heap.size rfl 84 X (0, 0) _ hA.s.heap_ Tryd.underlying84 rfl G1.out ?_))
          refine hAdd.mono ?_
          rintro e w2 ⟨bl', iS, rfl, hb2⟩
          obtain ⟨q, hq⟩ : ∃ q, q = stN M (M.length / 64) := ⟨_, rfl⟩
          rw [← hq]
          have hsh : sha m = outTo q 32 := by rw [sha, shaS, ← HM.out, ← hq]
          have HSH := Lib.hid hsh
          obtain ⟨Y, hY⟩ : ∃ Y, Y = (strm q bl' M.length).toArray := ⟨_, rfl⟩
          rw [← hY]
          have hYw : ∀ a : Nat, a < 8 → Y[a]? = some (.int .u32 ((q.word a).toNat : Int)) := by
            intro a ha
            rw [hY]
            rcases (by omega : a = 0 ∨ a = 1 ∨ a = 2 ∨ a = 3 ∨ a = 4 ∨ a = 5 ∨ a = 6 ∨ a = 7) with rfl | rfl | rfl | rfl | rfl | rfl | rfl | rfl <;> rfl
          have G3 : Hid (Y.all (·.oneCell') = true) := Lib.hid (by rw [hY]; exact all_oneCell_toArray (strm_one _ _ _))
          have G2 : Hid (X.size = Y.size) := Lib.hid (by rw [hY, HX.out, List.size_toArray, List.size_toArray, strm_length _ _ hB.1, strm_length _ _ iS.1])
          have G4 : Hid ((Tryd.prog.info? 84).map (·.size) = some Y.size) := Lib.hid (by rw [← G2.out]; exact G1.out)
          have s2 : Blk w2 w.heap.size 84 X := hA.s.below hb2 hA.s.lt
          have r2 : Blk w2 (w.heap.size + 1) 88 Z := hA.r.below hb2 hA.r.lt
          have b2 : Below w.heap.size w w2 := hA.b.trans (hb2.mono hA.b.size)
          have z2 : w.heap.size + 2 ≤ w2.heap.size := Nat.le_trans hA.z hb2.size
          clear hq hY hA hAdd hcv hb2 iS hsh
          go_wp2_with (first
            | (with_reducible refine wpList_store_row rfl 84 _ _ rfl w.heap.size Y rfl rfl 84 X s2.heap_ G4.out G2.out G3.out ?_))
          refine wp_world fun w3 hw3 => ?_
          have O0 : Outs w Y Z w2.heap.size q 0 w3 := by
            rw [hw3]
            refine ⟨((below_setRow b2 (Nat.le_refl _) Y).alloc (by rw [setRow_size]; exact b2.size) _), (s2.row Y).alloc _, (r2.rowFar (by simp) Y).alloc _, ?_, z2⟩
            have := Blk.new (w2.setRow w.heap.size Y) 88 (List.replicate 32 (Value.int .u8 0)).toArray
            rw [setRow_size] at this
            exact this
          clear hw3 s2 r2 b2 z2
          obtain ⟨B, hBB⟩ : ∃ B, B = w2.heap.size := ⟨_, rfl⟩
          rw [← hBB] at O0 ⊢
          clear hBB
          go_loopw [40] (fun i wr => ∃ j : Nat, j ≤ 32 ∧ i = .int .i64 (j : Int) ∧ Outs w Y Z B q j wr) (fun i _ => (32 - intOf i).toNat)
          case atStart => exact ⟨0, by omega, rfl, O0⟩
          case round =>
            clear O0
            obtain ⟨j, hj, rfl, hO⟩ := hrel
            by_cases hlt : j < 32
            · have hji : (j : Int) < 32 := by omega
              have hjn : ¬ 32 ≤ (j : Int) := by omega
              obtain ⟨a, ha⟩ : ∃ a, a = j / 4 := ⟨_, rfl⟩
              obtain ⟨r, hr⟩ : ∃ r, r = j % 4 := ⟨_, rfl⟩
              have ha2 : (j : Int) / 4 = (a : Int) := by omega
              have hr2 : (j : Int) % 4 = (r : Int) := by omega
              have ha8 : (a : Int) < 8 := by omega
              have han : ¬ 8 ≤ (a : Int) := by omega
              have hr3 : 0 ≤ 24 - 8 * (r : Int) := by omega
              have hc := hO.s.at_ (hYw a (by omega))
              have hf := hO.s.frozen
              have hx := outTo_succ q j
              rw [← ha, ← hr] at hx
              have hfb := hO.o.frozen j
              have hcb : wr.cell? ⟨B, j, none⟩ = some (.int .u8 0) := hO.o.at_ (out_at q hlt)
              have hd : ((q.word a).toNat : Int) / 2 ^ (24 - 8 * r) % 256 = (((q.word a).toNat / 256 ^ (3 - r) % 256 : Nat) : Int) := by
                rw [show 24 - 8 * r = 8 * (3 - r) by omega, pow_256]; simp
              have HX2 := Lib.hid hx
              clear hx ha hr
              go_wp2_with fail
              go_roundw
              case rel => exact ⟨j + 1, by omega, by go_num, hO.put hlt HX2.out (Nat.mod_lt _ (by omega))⟩
              case measure => simp [intOf]; omega
            · have hj32 : j = 32 := by omega
              subst hj32
              have eR : (bytesV (outTo q 32) ++ List.replicate (32 - 32) (Value.int .u8 0)).toArray = R := by rw [HR.out, HSH.out]; simp
              have hl : R.size = 32 := by rw [HR.out, HSH.out, List.size_toArray, bytesV_length, outTo_length]
              have hone : Hid (R.all (·.oneCell') = true) := Lib.hid (by rw [HR.out]; exact all_oneCell_toArray (bytesV_one _))
              obtain ⟨ob, os, orr, oo, oz⟩ := hO
              rw [eR] at oo
              have F1 : Hid ((Tryd.prog.info? 88).map (·.size) = some R.size) := Lib.hid (by rw [hl]; exact info82)
              have F2 : Hid (Z.size = R.size) := Lib.hid (by rw [hl, HZ.out])
              clear eR hl
              go_wp2_with (first
                | (with_reducible refine wpList_load_row rfl 88 _ rfl B rfl 88 R (0, 0) _ oo.heap_ Tryd.underlying88 rfl F1.out ?_)
                | (with_reducible refine wpList_store_row rfl 88 _ _ rfl (w.heap.size + 1) R rfl rfl 88 Z orr.heap_ F1.out F2.out hone.out ?_))
              refine ret_row (g := w.heap.size + 1) (cs := R) (t := 88) Tryd.results51 ?_ (orr.row R) rfl Tryd.underlying88 F1.out ?_ ?_
              · rfl
              · rfl
              · exact ⟨rfl, below_setRow ob (by omega) R⟩
end Go.Proofs.YtnionejefpnfoaaDoor
