/- The reference's SHA-256: Sum. Conditions: its round constants lie in their variable; the message is short. -/
import Derived.Test.YtiajlglnefiemaaDoorRb
import Derived.Test.YtiajlglnefiemaaDoorTabs
import Derived.Test.YtiajlglnefiemaaDoorHh
set_option linter.unusedSimpArgs false
set_option linter.unusedVariables false
namespace Go.Proofs.YtiajlglnefiemaaDoor
open Go.RowKit

/-- what holds between two blocks -/
structure RSum (w : World) (g c : Nat) (M : List UInt8) (Z : Array Value) (q : St) (wr : World) : Prop where
  b : Below w.heap.size w wr
  r : Blk wr w.heap.size 82 Z
  s : Blk wr (w.heap.size + 1) 74 q.cells
  o : wr.ownsRow (w.heap.size + 2) 5 1 (.slice (some ⟨g, 0, none⟩) M.length c) M.length (bytesV M)
theorem RSum.drewN {w wr : World} {g c : Nat} {M : List UInt8} {Z : Array Value} {q : St} (h : RSum w g c M Z q wr) (n : Nat) : RSum w g c M Z q (wr.drewN n) := ⟨below_drewN' h.b n, h.r.drewN n, h.s.drewN n, h.o⟩
theorem cells_eight (q : St) (x0 x1 x2 x3 x4 x5 x6 x7 : UInt32) : ((((((((q.cells.setIfInBounds 0 (.int .u32 (x0.toNat : Int))).setIfInBounds 1 (.int .u32 (x1.toNat : Int))).setIfInBounds 2 (.int .u32 (x2.toNat : Int))).setIfInBounds 3 (.int .u32 (x3.toNat : Int))).setIfInBounds 4 (.int .u32 (x4.toNat : Int))).setIfInBounds 5 (.int .u32 (x5.toNat : Int))).setIfInBounds 6 (.int .u32 (x6.toNat : Int))).setIfInBounds 7 (.int .u32 (x7.toNat : Int))) = St.cells ⟨x0, x1, x2, x3, x4, x5, x6, x7⟩ := by
  obtain ⟨a, b, c, d, e, f, g, h⟩ := q
  simp [St.cells, w32]
theorem RSum.eight {w wr : World} {g c : Nat} {M : List UInt8} {Z : Array Value} {q : St} (h : RSum w g c M Z q wr) (x0 x1 x2 x3 x4 x5 x6 x7 : UInt32) :
    RSum w g c M Z ⟨x0, x1, x2, x3, x4, x5, x6, x7⟩ ((((((((wr.setCell ⟨w.heap.size + 1, 0, none⟩ (.int .u32 (x0.toNat : Int))).setCell ⟨w.heap.size + 1, 1, none⟩ (.int .u32 (x1.toNat : Int))).setCell ⟨w.heap.size + 1, 2, none⟩ (.int .u32 (x2.toNat : Int))).setCell ⟨w.heap.size + 1, 3, none⟩ (.int .u32 (x3.toNat : Int))).setCell ⟨w.heap.size + 1, 4, none⟩ (.int .u32 (x4.toNat : Int))).setCell ⟨w.heap.size + 1, 5, none⟩ (.int .u32 (x5.toNat : Int))).setCell ⟨w.heap.size + 1, 6, none⟩ (.int .u32 (x6.toNat : Int))).setCell ⟨w.heap.size + 1, 7, none⟩ (.int .u32 (x7.toNat : Int))) := by
  have hs := ((((((((h.s.set_ 0 (.int .u32 (x0.toNat : Int))).set_ 1 (.int .u32 (x1.toNat : Int))).set_ 2 (.int .u32 (x2.toNat : Int))).set_ 3 (.int .u32 (x3.toNat : Int))).set_ 4 (.int .u32 (x4.toNat : Int))).set_ 5 (.int .u32 (x5.toNat : Int))).set_ 6 (.int .u32 (x6.toNat : Int))).set_ 7 (.int .u32 (x7.toNat : Int)))
  rw [cells_eight] at hs
  exact ⟨((((((((h.b.setCell (p := ⟨w.heap.size + 1, 0, none⟩) (by simp) (.int .u32 (x0.toNat : Int))).setCell (p := ⟨w.heap.size + 1, 1, none⟩) (by simp) (.int .u32 (x1.toNat : Int))).setCell (p := ⟨w.heap.size + 1, 2, none⟩) (by simp) (.int .u32 (x2.toNat : Int))).setCell (p := ⟨w.heap.size + 1, 3, none⟩) (by simp) (.int .u32 (x3.toNat : Int))).setCell (p := ⟨w.heap.size + 1, 4, none⟩) (by simp) (.int .u32 (x4.toNat : Int))).setCell (p := ⟨w.heap.size + 1, 5, none⟩) (by simp) (.int .u32 (x5.toNat : Int))).setCell (p := ⟨w.heap.size + 1, 6, none⟩) (by simp) (.int .u32 (x6.toNat : Int))).setCell (p := ⟨w.heap.size + 1, 7, none⟩) (by simp) (.int .u32 (x7.toNat : Int))), ((((((((h.r.far (p := ⟨w.heap.size + 1, 0, none⟩) (by simp) (.int .u32 (x0.toNat : Int))).far (p := ⟨w.heap.size + 1, 1, none⟩) (by simp) (.int .u32 (x1.toNat : Int))).far (p := ⟨w.heap.size + 1, 2, none⟩) (by simp) (.int .u32 (x2.toNat : Int))).far (p := ⟨w.heap.size + 1, 3, none⟩) (by simp) (.int .u32 (x3.toNat : Int))).far (p := ⟨w.heap.size + 1, 4, none⟩) (by simp) (.int .u32 (x4.toNat : Int))).far (p := ⟨w.heap.size + 1, 5, none⟩) (by simp) (.int .u32 (x5.toNat : Int))).far (p := ⟨w.heap.size + 1, 6, none⟩) (by simp) (.int .u32 (x6.toNat : Int))).far (p := ⟨w.heap.size + 1, 7, none⟩) (by simp) (.int .u32 (x7.toNat : Int))), hs, (ownsRow_setCell_below (ownsRow_setCell_below (ownsRow_setCell_below (ownsRow_setCell_below (ownsRow_setCell_below (ownsRow_setCell_below (ownsRow_setCell_below (ownsRow_setCell_below h.o (a := ⟨w.heap.size + 1, 0, none⟩) (by simp) (.int .u32 (x0.toNat : Int))) (a := ⟨w.heap.size + 1, 1, none⟩) (by simp) (.int .u32 (x1.toNat : Int))) (a := ⟨w.heap.size + 1, 2, none⟩) (by simp) (.int .u32 (x2.toNat : Int))) (a := ⟨w.heap.size + 1, 3, none⟩) (by simp) (.int .u32 (x3.toNat : Int))) (a := ⟨w.heap.size + 1, 4, none⟩) (by simp) (.int .u32 (x4.toNat : Int))) (a := ⟨w.heap.size + 1, 5, none⟩) (by simp) (.int .u32 (x5.toNat : Int))) (a := ⟨w.heap.size + 1, 6, none⟩) (by simp) (.int .u32 (x6.toNat : Int))) (a := ⟨w.heap.size + 1, 7, none⟩) (by simp) (.int .u32 (x7.toNat : Int)))⟩
/-- what holds while the result is written -/
structure ROuts (w : World) (q : St) (Z : Array Value) (B j : Nat) (wr : World) : Prop where
  b : Below w.heap.size w wr
  r : Blk wr w.heap.size 82 Z
  s : Blk wr (w.heap.size + 1) 74 q.cells
  o : Blk wr B 82 (bytesV (outTo q j) ++ List.replicate (32 - j) (Value.int .u8 0)).toArray
  z : w.heap.size + 1 < B
theorem ROuts.put {w wr : World} {Z : Array Value} {B j x : Nat} {q : St} (h : ROuts w q Z B j wr) (hj : j < 32) (e : outTo q (j + 1) = outTo q j ++ [byt x]) (hx : x < 256) :
    ROuts w q Z B (j + 1) (wr.setCell ⟨B, j, none⟩ (.int .u8 (x : Int))) := by
  have hz := h.z
  refine ⟨h.b.setCell (by simp; omega) _, h.r.far (by simp; omega) _, h.s.far (by simp; omega) _, ?_, h.z⟩
  have := h.o.set_ j (.int .u8 (x : Int))
  have e2 : (bytesV (outTo q j) ++ List.replicate (32 - j) (Value.int .u8 0)).toArray.setIfInBounds j (.int .u8 (x : Int)) = (bytesV (outTo q (j + 1)) ++ List.replicate (32 - (j + 1)) (Value.int .u8 0)).toArray := by
    have hb : bytesV [byt x] = [.int .u8 (x : Int)] := by rw [bytesV_cons, byt_toNat hx]; rfl
    have hl : (bytesV (outTo q j)).length = j := by rw [bytesV_length, outTo_length]
    rw [List.setIfInBounds_toArray, e, bytesV_append, hb, List.set_append_right _ _ (by omega), hl, Nat.sub_self, show 32 - j = (32 - (j + 1)) + 1 by omega, List.replicate_succ, List.set_cons_zero, List.append_assoc]
    rfl
  rw [e2] at this
  exact this
theorem pad64 (m : List UInt8) : 64 * ((m ++ padB m.length).length / 64) = (m ++ padB m.length).length := by
  rw [List.length_append, padB_length]
  unfold zeros
  omega
theorem w_notc (x : UInt32) : bits .xor .u32 (x.toNat : Int) 4294967295 = ((cw x).toNat : Int) := by
  have h : (4294967295 : Int) = ((4294967295 : UInt32).toNat : Int) := by decide
  have h2 : IntKind.u32.max = ((4294967295 : UInt32).toNat : Int) := by decide
  have h3 := w_not x
  rw [h2, w_xor] at h3
  rw [h, w_xor, ← h3]
  unfold xw
  rw [UInt32.xor_comm]
theorem own_thru0 {W W' : World} {base size k : Nat} {e : TypeId} {v : Value} {xs : List Value} (h : W.ownsRow base e size v k xs) (hb : Below W.heap.size W W') : W'.ownsRow base e size v k xs := by
  refine h.kept ⟨hb.os, hb.tape, hb.output, hb.size, fun k hk _ => hb.block k hk⟩ (row := none) ?_
  rcases h.2 with ⟨rfl, _⟩ | ⟨g', cap, cur, rfl, _⟩
  · exact .inl rfl
  · exact .inr (by simp [Value.ownBlock])
theorem own_row2 {w : World} {base size n g c : Nat} {e : TypeId} {xs : List Value} {o : Obj} (h : (w.alloc o).ownsRow base e size (.slice (some ⟨g, 0, none⟩) n c) n xs) (C : Array Value) (hg : g < w.heap.size := by assumption) : ((w.alloc o).setRow w.heap.size C).ownsRow base e size (.slice (some ⟨g, 0, none⟩) n c) n xs := by
  refine ⟨h.1, ?_⟩
  rcases h.2 with h | ⟨g', cap, cur, h1, h2, h3, h4⟩
  · exact .inl h
  · have e2 : g = g' := by injection h1 with h1; injection h1 with h1; injection h1
    exact .inr ⟨g', cap, cur, h1, h2, (setRow_other _ _ g' C (by omega)).trans h3, h4⟩
theorem own_setRow {w : World} {base size n g : Nat} {e : TypeId} {v : Value} {xs : List Value} (h : w.ownsRow base e size v n xs) (hg : g < base) (cs : Array Value) : (w.setRow g cs).ownsRow base e size v n xs := by
  refine ⟨h.1, ?_⟩
  rcases h.2 with h | ⟨g', cap, cur, h1, h2, h3, h4⟩
  · exact .inl h
  · exact .inr ⟨g', cap, cur, h1, h2, (setRow_other w g g' cs (by omega)).trans h3, h4⟩
theorem addr_plus (g a j : Nat) : (⟨g, a, none⟩ : Addr).add j = ⟨g, a + j, none⟩ := by
  unfold Addr.add; split <;> simp_all
theorem rrot2_a (x : UInt32) (w : World) : Calls Tryd.prog 112 #[.int .u32 (x.toNat : Int), .int .i64 2] w fun e w' => e = .returned (.int .u32 ((rotr x 2).toNat : Int)) ∧ ∃ n, w' = w.drewN n := rrot_any x 2 w (by omega) (by omega)
theorem rrot13_a (x : UInt32) (w : World) : Calls Tryd.prog 112 #[.int .u32 (x.toNat : Int), .int .i64 13] w fun e w' => e = .returned (.int .u32 ((rotr x 13).toNat : Int)) ∧ ∃ n, w' = w.drewN n := rrot_any x 13 w (by omega) (by omega)
theorem rrot22_a (x : UInt32) (w : World) : Calls Tryd.prog 112 #[.int .u32 (x.toNat : Int), .int .i64 22] w fun e w' => e = .returned (.int .u32 ((rotr x 22).toNat : Int)) ∧ ∃ n, w' = w.drewN n := rrot_any x 22 w (by omega) (by omega)
/-- the state behind some rounds, in the slots -/
def stV (q : St) : List Value := [w32 q.a, w32 q.b, w32 q.c, w32 q.d, w32 q.e, w32 q.f, w32 q.g, w32 q.h]
theorem info74 : (Tryd.prog.info? 74).map (·.size) = some 8 := by kernel_rfl
set_option maxRecDepth 100000 in
set_option maxHeartbeats 8000000 in
theorem rSum_any (A : Option Addr) (n c : Nat) (m : List UInt8) (w : World) (hl : Reads w w.heap.size 1 A n (bytesV m)) (hn : n ≤ 1000000) (hnc : n ≤ c) (hK : RConsts w) (h1 : 1 < w.heap.size) :
    Calls Tryd.prog 100 #[.slice A n c] w fun e W' => e = .returned (.agg (bytesV (sha m)).toArray) ∧ Below w.heap.size w W' := by
  have el := hl.byte_len
  subst el
  obtain ⟨Z, hZ⟩ : ∃ Z : Array Value, Z = (List.replicate 32 (Value.int .u8 0)).toArray := ⟨_, rfl⟩
  have hpad := fun (W : World) (hW : Below w.heap.size w W) => rPadded_any A m.length c m W ((hl.below hW).more hW.size) hn hnc
  have h64 := pad64 m
  have hMl : (m ++ padB m.length).length ≤ 1000100 := by rw [List.length_append, padB_length]; have := zeros_lt m.length; omega
  have hMp : 0 < (m ++ padB m.length).length := by rw [List.length_append, padB_length]; omega
  have hsh : sha m = outTo (stN (m ++ padB m.length) ((m ++ padB m.length).length / 64)) 32 := rfl
  rw [hsh]
  clear hsh
  generalize m ++ padB m.length = M at *
  obtain ⟨K, hKK⟩ : ∃ K, K = M.length / 64 := ⟨_, rfl⟩
  rw [← hKK] at h64 ⊢
  obtain ⟨R, hR⟩ : ∃ R, R = (bytesV (outTo (stN M K) 32)).toArray := ⟨_, rfl⟩
  rw [← hR]
  have HR := Lib.hid hR
  clear hR
  have HPAD := Lib.hid hpad
  clear hpad hKK
  go_enter Tryd.func100, Tryd.ntmps100
  go_wp2_with fail
  refine (HPAD.out _ ?_).mono ?_
  · exact ((Below.refl _ w).alloc (Nat.le_refl _) _).alloc (by simp) _
  rintro E w1 ⟨v, rfl, o1, b1⟩
  obtain ⟨g, c1, rfl, hg2, hg3⟩ := o1.form hMp
  have hc1 : M.length ≤ c1 := by obtain ⟨A', c', e, hc, -⟩ := own_slice o1; injection e with _ _ e; omega
  have I0 : RSum w g c1 M Z S0 w1 := by
    have e1 : (#[Value.int .u32 1779033703, .int .u32 3144134277, .int .u32 1013904242, .int .u32 2773480762, .int .u32 1359893119, .int .u32 2600822924, .int .u32 528734635, .int .u32 1541459225] : Array Value) = S0.cells := by kernel_rfl
    have e2 : (#[Value.int .u8 0, .int .u8 0, .int .u8 0, .int .u8 0, .int .u8 0, .int .u8 0, .int .u8 0, .int .u8 0, .int .u8 0, .int .u8 0, .int .u8 0, .int .u8 0, .int .u8 0, .int .u8 0, .int .u8 0, .int .u8 0, .int .u8 0, .int .u8 0, .int .u8 0, .int .u8 0, .int .u8 0, .int .u8 0, .int .u8 0, .int .u8 0, .int .u8 0, .int .u8 0, .int .u8 0, .int .u8 0, .int .u8 0, .int .u8 0, .int .u8 0, .int .u8 0] : Array Value) = Z := by rw [hZ]; kernel_rfl
    rw [e1, e2] at b1 o1
    have hsz : ((w.alloc (.cells Z 82)).alloc (.cells S0.cells 74)).heap.size = w.heap.size + 2 := by simp
    rw [hsz] at o1
    refine ⟨?_, ?_, ?_, o1⟩
    · exact (((Below.refl _ w).alloc (Nat.le_refl _) _).alloc (by simp) _).trans (b1.mono (by rw [hsz]; omega))
    · exact ((Blk.new w 82 Z).alloc _).thru b1
    · exact (Blk.new' (by simp) : Blk ((w.alloc (.cells Z 82)).alloc (.cells S0.cells 74)) (w.heap.size + 1) 74 S0.cells).thru b1
  clear o1 b1 hl
  have HZ : Hid (Z.size = 32) := Lib.hid (by rw [hZ]; rfl)
  clear hZ
  go_wp2_with fail
  go_loopw [5] (fun i wr => ∃ k : Nat, k ≤ K ∧ i = .int .i64 ((64 * k : Nat) : Int) ∧ RSum w g c1 M Z (stN M k) wr) (fun i _ => (64 * K - intOf i).toNat)
  case atStart => exact ⟨0, by omega, rfl, I0⟩
  case round =>
    clear I0
    obtain ⟨k, hk, rfl, hI⟩ := hrel
    by_cases hlt : k < K
    · have hki : ((64 * k : Nat) : Int) < (M.length : Int) := by omega
      have hk64 : 64 * k + 64 ≤ M.length := by omega
      have hrd : Reads wr wr.heap.size 1 (some ⟨g, 64 * k, none⟩) 64 (bytesV (blk M k))  := by
        have ho := hI.o
        have hg := (Reads.of_own ho).2 hMp
        obtain ⟨ad, e, hlt2, hcell⟩ := hg
        injection e with e
        subst e
        refine ⟨?_, fun _ => ⟨_, rfl, hlt2, fun j u hu => ?_⟩⟩
        · rw [bytesV_length, blk, List.length_take, List.length_drop]; omega
        · rw [addr_plus]
          have := hcell (64 * k + j) u (by
            rw [bytesV_get] at hu ⊢
            rw [blk, List.getElem?_take] at hu
            split at hu
            · rw [List.getElem?_drop] at hu; exact hu
            · cases hu)
          rw [addr_add0] at this
          exact this
      have hwd := rWords_any (some ⟨g, 64 * k, none⟩) (c1 - 64 * k) (blk M k) wr hrd (by omega)
      have hst : stN M (k + 1) = comp (stN M k) (blk M k) := rfl
      generalize blk M k = bb at *
      generalize hq : stN M k = q at *
      obtain ⟨C, hC⟩ : ∃ C, C = (w32s (schedN bb 64)).toArray := ⟨_, rfl⟩
      rw [← hC] at hwd
      have HC := Lib.hid hC
      have HST := Lib.hid hst
      have HW := Lib.hid hwd
      clear hC hst hwd hrd
      go_wp2_with fail
      refine HW.out.mono ?_
      rintro E w2 ⟨rfl, b2⟩
      have hI2 : RSum w g c1 M Z q w2 := ⟨hI.b.trans (b2.mono hI.b.size), hI.r.thru b2, hI.s.thru b2, own_thru0 hI.o b2⟩
      clear hI
      have HCL : Hid (C.size = 64) := Lib.hid (by rw [HC.out]; simp [w32s, schedN_length])
      have HC1 : Hid (C.all (·.oneCell') = true) := Lib.hid (by rw [HC.out]; exact w32s_one _)
      have HC2 : Hid ((Tryd.prog.info? 117).map (·.size) = some C.size) := Lib.hid (by rw [HCL.out]; exact info64)
      go_wp2_with (first
        | ((with_reducible refine wpList_store_row rfl 117 _ _ rfl w2.heap.size C rfl rfl 117 _ (heap_alloc_new w2 _) HC2.out ?_ HC1.out ?_); (focus (rw [HCL.out]; rfl))))
      refine wp_world fun w3 hw3 => ?_
      have hI3 : RSum w g c1 M Z q w3 := by
        rw [hw3]
        have hs := hI2.s.lt
        have hr := hI2.r.lt
        have hgl : g < w2.heap.size := by
          obtain ⟨g', c', e, -, hlt2⟩ := hI2.o.form hMp
          have e2 : g = g' := by injection e with e; injection e with e; injection e
          omega
        exact ⟨below_setRow (hI2.b.alloc hI2.b.size _) hI2.b.size C, (hI2.r.alloc _).rowFar (by omega) C, (hI2.s.alloc _).rowFar (by omega) C, own_row2 (hI2.o.alloc _) C hgl⟩
      have hC3 : Blk w3 w2.heap.size 117 C := by rw [hw3]; exact (Blk.new w2 117 _).row C
      have hgC : w.heap.size + 1 < w2.heap.size := hI2.s.lt
      clear hw3 hI2 b2
      generalize w2.heap.size = gC at *
      obtain ⟨a, b, cc, d, e, f, gg, h⟩ := q
      have u0 : w3.cell? ⟨w.heap.size + 1, 0, none⟩ = some (.int .u32 (a.toNat : Int)) := hI3.s.at_ rfl
      have u1 : w3.cell? ⟨w.heap.size + 1, 1, none⟩ = some (.int .u32 (b.toNat : Int)) := hI3.s.at_ rfl
      have u2 : w3.cell? ⟨w.heap.size + 1, 2, none⟩ = some (.int .u32 (cc.toNat : Int)) := hI3.s.at_ rfl
      have u3 : w3.cell? ⟨w.heap.size + 1, 3, none⟩ = some (.int .u32 (d.toNat : Int)) := hI3.s.at_ rfl
      have u4 : w3.cell? ⟨w.heap.size + 1, 4, none⟩ = some (.int .u32 (e.toNat : Int)) := hI3.s.at_ rfl
      have u5 : w3.cell? ⟨w.heap.size + 1, 5, none⟩ = some (.int .u32 (f.toNat : Int)) := hI3.s.at_ rfl
      have u6 : w3.cell? ⟨w.heap.size + 1, 6, none⟩ = some (.int .u32 (gg.toNat : Int)) := hI3.s.at_ rfl
      have u7 : w3.cell? ⟨w.heap.size + 1, 7, none⟩ = some (.int .u32 (h.toNat : Int)) := hI3.s.at_ rfl
      go_quiet (fail)
      clear u0 u1 u2 u3 u4 u5 u6 u7
      generalize hW : w3.drewN nq = w4
      have hI4 : RSum w g c1 M Z ⟨a, b, cc, d, e, f, gg, h⟩ w4 := hW ▸ hI3.drewN nq
      have hC4 : Blk w4 gC 117 C := hW ▸ hC3.drewN nq
      clear hW hI3 hC3
      generalize hss : (⟨a, b, cc, d, e, f, gg, h⟩ : St) = ss at *
      have HSS := Lib.hid hss
      go_wp2_with fail
      go_loopw [7, 8, 9, 10, 11, 12, 13, 14, 15] (fun v7 v8 v9 v10 v11 v12 v13 v14 i wr => ∃ (t : Nat) (p : St), t ≤ 64 ∧ i = .int .i64 (t : Int) ∧ Hid (p = ss.rnds (schedN bb 64) t) ∧ v7 = .int .u32 (p.a.toNat : Int) ∧ v8 = .int .u32 (p.b.toNat : Int) ∧ v9 = .int .u32 (p.c.toNat : Int) ∧ v10 = .int .u32 (p.d.toNat : Int) ∧ v11 = .int .u32 (p.e.toNat : Int) ∧ v12 = .int .u32 (p.f.toNat : Int) ∧ v13 = .int .u32 (p.g.toNat : Int) ∧ v14 = .int .u32 (p.h.toNat : Int) ∧ RSum w g c1 M Z ss wr ∧ Blk wr gC 117 C) (fun _ _ _ _ _ _ _ _ i _ => (64 - intOf i).toNat)
      case atStart =>
        refine ⟨0, ⟨a, b, cc, d, e, f, gg, h⟩, by omega, rfl, Lib.hid (by rw [hss]; rfl), rfl, rfl, rfl, rfl, rfl, rfl, rfl, rfl, hI4, hC4⟩
      case round =>
        clear hI4 hC4 hss
        obtain ⟨t, ⟨pa, pb, pc, pd, pe, pf, pg, ph⟩, ht, rfl, HP, rfl, rfl, rfl, rfl, rfl, rfl, rfl, rfl, hI, hC⟩ := hrel
        by_cases htl : t < 64
        · have hti : (t : Int) < 64 := by omega
          have hk : wr.cell? ⟨1, t, none⟩ = some (.int .u32 ((nth KS t).toNat : Int)) := (hK.below (hI.b.mono (by omega))) t (nth KS t) (by unfold nth; rw [List.getElem?_eq_getElem (show t < KS.length from htl)]; rfl)
          have hwt : wr.cell? ⟨gC, t, none⟩ = some (.int .u32 ((nth (schedN bb 64) t).toNat : Int)) := hC.at_ (by
            rw [HC.out, List.getElem?_toArray, w32s_get]
            unfold nth
            rw [List.getElem?_eq_getElem (by rw [schedN_length]; exact htl)]; rfl)
          have HN : Hid (ss.rnds (schedN bb 64) (t + 1) = (⟨pa, pb, pc, pd, pe, pf, pg, ph⟩ : St).rnd (nth KS t) (nth (schedN bb 64) t)) := by
            show ss.rnds (schedN bb 64) (t + 1) = _
            rw [HP.out]; rfl
          generalize nth (schedN bb 64) t = wt at *
          generalize nth KS t = kt at *
          dsimp only
          have x1 := w_xor (rotr pe 6) (rotr pe 11)
          have x2 : bits .xor .u32 ((xw (rotr pe 6) (rotr pe 11)).toNat : Int) ((rotr pe 25).toNat : Int) = ((mixU pe 6 11 25).toNat : Int) := w_xor _ _
          have m1 := w_addw ph (mixU pe 6 11 25)
          have m2 := w_and pe pf
          have m3 := w_notc pe
          have m4 := w_and (cw pe) pg
          have m5 := w_xor (nw pe pf) (nw (cw pe) pg)
          have m6 := w_addw (aw ph (mixU pe 6 11 25)) (xw (nw pe pf) (nw (cw pe) pg))
          have m7 := w_addw (aw (aw ph (mixU pe 6 11 25)) (xw (nw pe pf) (nw (cw pe) pg))) kt
          have m8 := w_addw (aw (aw (aw ph (mixU pe 6 11 25)) (xw (nw pe pf) (nw (cw pe) pg))) kt) wt
          have m1' := w_add ph (mixU pe 6 11 25)
          have m6' := w_add (aw ph (mixU pe 6 11 25)) (xw (nw pe pf) (nw (cw pe) pg))
          have m7' := w_add (aw (aw ph (mixU pe 6 11 25)) (xw (nw pe pf) (nw (cw pe) pg))) kt
          have m8' := w_add (aw (aw (aw ph (mixU pe 6 11 25)) (xw (nw pe pf) (nw (cw pe) pg))) kt) wt
          go_wp2_with fail
          go_quiet ((go_at_call 112; first | with_reducible exact rrot6_q pe _ _ | with_reducible exact rrot11_q pe _ _ | with_reducible exact rrot25_q pe _ _))
          clear x1 x2 m1 m2 m3 m4 m5 m6 m7 m8 m1' m6' m7' m8' hk hwt
          have HX : Hid (aw (aw (aw (aw ph (mixU pe 6 11 25)) (xw (nw pe pf) (nw (cw pe) pg))) kt) wt = rndX ⟨pa, pb, pc, pd, pe, pf, pg, ph⟩ kt wt) := Lib.hid rfl
          generalize aw (aw (aw (aw ph (mixU pe 6 11 25)) (xw (nw pe pf) (nw (cw pe) pg))) kt) wt = X at *
          have y1 := w_xor (rotr pa 2) (rotr pa 13)
          have y2 : bits .xor .u32 ((xw (rotr pa 2) (rotr pa 13)).toNat : Int) ((rotr pa 22).toNat : Int) = ((mixU pa 2 13 22).toNat : Int) := w_xor _ _
          have n1 := w_and pa pb
          have n2 := w_and pa pc
          have n3 := w_xor (nw pa pb) (nw pa pc)
          have n4 := w_and pb pc
          have n5 := w_xor (xw (nw pa pb) (nw pa pc)) (nw pb pc)
          have n6 := w_addw (mixU pa 2 13 22) (xw (xw (nw pa pb) (nw pa pc)) (nw pb pc))
          have n6' := w_add (mixU pa 2 13 22) (xw (xw (nw pa pb) (nw pa pc)) (nw pb pc))
          have HY : Hid (aw (mixU pa 2 13 22) (xw (xw (nw pa pb) (nw pa pc)) (nw pb pc)) = rndY ⟨pa, pb, pc, pd, pe, pf, pg, ph⟩) := Lib.hid rfl
          generalize hYY : aw (mixU pa 2 13 22) (xw (xw (nw pa pb) (nw pa pc)) (nw pb pc)) = Y at *
          clear hYY
          have q1 := w_addw pd X
          have q1' := w_add pd X
          have q2 := w_addw X Y
          have q2' := w_add X Y
          go_wp2_with fail
          refine (rrot2_a pa _).mono ?_
          rintro E w5 ⟨rfl, d1, rfl⟩
          go_wp2_with fail
          refine (rrot13_a pa _).mono ?_
          rintro E w5 ⟨rfl, d2, rfl⟩
          go_wp2_with fail
          refine (rrot22_a pa _).mono ?_
          rintro E w5 ⟨rfl, d3, rfl⟩
          go_wp2_with fail
          have hI5 := hI.drewN (nq + d1 + d2 + d3)
          have hC5 := hC.drewN (nq + d1 + d2 + d3)
          have hp : Hid ((⟨aw X Y, pa, pb, pc, aw pd X, pe, pf, pg⟩ : St) = ss.rnds (schedN bb 64) (t + 1)) := by
            show _ = _
            rw [HN.out, HX.out, HY.out]; rfl
          have v1 : Value.int .i64 ((t : Int) + 1) = .int .i64 ((t + 1 : Nat) : Int) := by go_num
          go_roundw
          case rel => first | exact ⟨t + 1, ⟨aw X Y, pa, pb, pc, aw pd X, pe, pf, pg⟩, by omega, v1, hp, rfl, rfl, rfl, rfl, rfl, rfl, rfl, rfl, hI5, hC5⟩ | ((repeat apply Exists.intro); exact ⟨⟨t + 1, ⟨aw X Y, pa, pb, pc, aw pd X, pe, pf, pg⟩, by omega, v1, hp, rfl, rfl, rfl, rfl, rfl, rfl, rfl, rfl, hI5, hC5⟩, rfl⟩)
          case measure => simp [intOf]; omega
        · obtain rfl : t = 64 := by omega
          clear htl ht
          have hs := HSS.out
          subst hs
          have u0 : wr.cell? ⟨w.heap.size + 1, 0, none⟩ = some (.int .u32 (a.toNat : Int)) := hI.s.at_ rfl
          have u1 : wr.cell? ⟨w.heap.size + 1, 1, none⟩ = some (.int .u32 (b.toNat : Int)) := hI.s.at_ rfl
          have u2 : wr.cell? ⟨w.heap.size + 1, 2, none⟩ = some (.int .u32 (cc.toNat : Int)) := hI.s.at_ rfl
          have u3 : wr.cell? ⟨w.heap.size + 1, 3, none⟩ = some (.int .u32 (d.toNat : Int)) := hI.s.at_ rfl
          have u4 : wr.cell? ⟨w.heap.size + 1, 4, none⟩ = some (.int .u32 (e.toNat : Int)) := hI.s.at_ rfl
          have u5 : wr.cell? ⟨w.heap.size + 1, 5, none⟩ = some (.int .u32 (f.toNat : Int)) := hI.s.at_ rfl
          have u6 : wr.cell? ⟨w.heap.size + 1, 6, none⟩ = some (.int .u32 (gg.toNat : Int)) := hI.s.at_ rfl
          have u7 : wr.cell? ⟨w.heap.size + 1, 7, none⟩ = some (.int .u32 (h.toNat : Int)) := hI.s.at_ rfl
          dsimp only
          have r0 := w_add a pa
          have r1 := w_add b pb
          have r2 := w_add cc pc
          have r3 := w_add d pd
          have r4 := w_add e pe
          have r5 := w_add f pf
          have r6 := w_add gg pg
          have r7 := w_add h ph
          have s0 := w_addw a pa
          have s1 := w_addw b pb
          have s2 := w_addw cc pc
          have s3 := w_addw d pd
          have s4 := w_addw e pe
          have s5 := w_addw f pf
          have s6 := w_addw gg pg
          have s7 := w_addw h ph
          have hnew : Hid ((⟨aw a pa, aw b pb, aw cc pc, aw d pd, aw e pe, aw f pf, aw gg pg, aw h ph⟩ : St) = stN M (k + 1)) := by
            show _ = _
            rw [HST.out]
            show _ = St.plus _ _
            rw [← HP.out]; rfl
          have hI6 := hI.eight (aw a pa) (aw b pb) (aw cc pc) (aw d pd) (aw e pe) (aw f pf) (aw gg pg) (aw h ph)
          rw [hnew.out] at hI6
          have f0 := hI.s.frozen 0
          have f1 := hI.s.frozen 1
          have f2 := hI.s.frozen 2
          have f3 := hI.s.frozen 3
          have f4 := hI.s.frozen 4
          have f5 := hI.s.frozen 5
          have f6 := hI.s.frozen 6
          have f7 := hI.s.frozen 7
          go_wp2_with fail
          go_roundw
          case rel => exact ⟨k + 1, by omega, by congr 1, hI6⟩
          case measure => simp [intOf]; omega
    · obtain rfl : k = K := by omega
      have hki : ¬ ((64 * k : Nat) : Int) < (M.length : Int) := by omega
      generalize stN M k = q at *
      obtain ⟨ib, ir, is, io⟩ := hI
      go_wp2_with fail
      have O0 : ROuts w q Z wr.heap.size 0 (wr.alloc (.cells (List.replicate 32 (Value.int .u8 0)).toArray 82)) := by
        refine ⟨ib.alloc ib.size _, ir.alloc _, is.alloc _, Blk.new wr 82 _, ?_⟩
        have := is.lt
        omega
      generalize wr.heap.size = B at *
      clear ib ir is io hki hk
      go_loopw [19] (fun i wr => ∃ j : Nat, j ≤ 32 ∧ i = .int .i64 (j : Int) ∧ ROuts w q Z B j wr) (fun i _ => (32 - intOf i).toNat)
      case atStart => exact ⟨0, by omega, rfl, O0⟩
      case round =>
        clear O0
        obtain ⟨j, hj, rfl, hO⟩ := hrel
        by_cases hlt : j < 32
        · have hji : (j : Int) < 32 := by omega
          obtain ⟨a, ha⟩ : ∃ a, a = j / 4 := ⟨_, rfl⟩
          obtain ⟨r, hr⟩ : ∃ r, r = j % 4 := ⟨_, rfl⟩
          have ha2 : (j : Int).tdiv 4 = (a : Int) := by rw [Int.tdiv_eq_ediv_of_nonneg (by omega)]; omega
          have ha3 : (j : Int) / 4 = (a : Int) := by omega
          have hr2 : (j : Int) % 4 = (r : Int) := by omega
          have ha8 : (a : Int) < 8 := by omega
          have hr3 : 0 ≤ 24 - 8 * (r : Int) := by omega
          have hqa : q.cells[a]? = some (.int .u32 ((q.word a).toNat : Int)) := by
            have ha8' : a < 8 := by omega
            rcases (by omega : a = 0 ∨ a = 1 ∨ a = 2 ∨ a = 3 ∨ a = 4 ∨ a = 5 ∨ a = 6 ∨ a = 7) with h | h | h | h | h | h | h | h <;> (rw [h]; rfl)
          have hc : wr.cell? ⟨w.heap.size + 1, a, none⟩ = some (.int .u32 ((q.word a).toNat : Int)) := hO.s.at_ hqa
          have hx := outTo_succ q j
          rw [← ha, ← hr] at hx
          have hfb := hO.o.frozen j
          have hcb : wr.cell? ⟨B, j, none⟩ = some (.int .u8 0) := hO.o.at_ (out_at q hlt)
          have hd : ((q.word a).toNat : Int) / 2 ^ (24 - 8 * r) % 256 = (((q.word a).toNat / 256 ^ (3 - r) % 256 : Nat) : Int) := by
            rw [show 24 - 8 * r = 8 * (3 - r) by omega, pow_256]; simp
          have HX2 := Lib.hid hx
          clear hx ha hr hqa
          go_wp2_with fail
          go_roundw
          case rel => exact ⟨j + 1, by omega, by go_num, hO.put hlt HX2.out (Nat.mod_lt _ (by omega))⟩
          case measure => simp [intOf]; omega
        · obtain rfl : j = 32 := by omega
          obtain ⟨ob, orr, os, oo, oz⟩ := hO
          have eR : (bytesV (outTo q 32) ++ List.replicate (32 - 32) (Value.int .u8 0)).toArray = R := by rw [HR.out]; simp
          have hl : R.size = 32 := by rw [HR.out, List.size_toArray, bytesV_length, outTo_length]
          have hone : Hid (R.all (·.oneCell') = true) := Lib.hid (by rw [HR.out]; exact all_oneCell_toArray (bytesV_one _))
          rw [eR] at oo
          have F1 : Hid ((Tryd.prog.info? 82).map (·.size) = some R.size) := Lib.hid (by rw [hl]; exact info82)
          have F2 : Hid (Z.size = R.size) := Lib.hid (by rw [hl, HZ.out])
          clear eR hl
          go_wp2_with (first
            | (with_reducible refine wpList_load_row rfl 82 _ rfl B rfl 82 R (0, 0) _ oo.heap_ Tryd.underlying82 rfl F1.out ?_)
            | (with_reducible refine wpList_store_row rfl 82 _ _ rfl w.heap.size R rfl rfl 82 Z orr.heap_ F1.out F2.out hone.out ?_))
          refine ret_row (g := w.heap.size) (cs := R) (t := 82) Tryd.results100 ?_ (orr.row R) rfl Tryd.underlying82 F1.out ?_ ?_
          · rfl
          · rfl
          · exact ⟨rfl, below_setRow ob (by omega) R⟩
end Go.Proofs.YtiajlglnefiemaaDoor
