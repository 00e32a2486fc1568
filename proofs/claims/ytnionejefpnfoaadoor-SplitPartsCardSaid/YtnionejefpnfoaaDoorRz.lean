/- The reference's draw of a word. In one text: Tabs, Tt, Ra, Rb, Rc, Rx, Rd, Re -/
import Derived.Test.YtnionejefpnfoaaDoorHc
import Derived.Test.YtnionejefpnfoaaDoorRows
import Derived.Deep.DeepHandedRow
import Derived.Lib.LaidTab
import Derived.LaidSub
import Derived.Test.YtnionejefpnfoaaDoorHg
import Derived.BigQuiet
import Derived.Deep.RegionHeld3
import Derived.Test.YtnionejefpnfoaaDoorHh
import Derived.Test.YtnionejefpnfoaaDoorWc
import Derived.Test.YtnionejefpnfoaaDoorHj
set_option linter.unusedSimpArgs false
set_option linter.unusedVariables false
/- What the rows' lists give: the round constants lie in their variables; and a world for the rows' witnesses. No condition but the list itself. -/
namespace Go.Proofs.YtnionejefpnfoaaDoor
open Go.RowKit

/-- the numbers of the table -/
def ZL : List Int := [1116352408, 1899447441, 3049323471, 3921009573, 961987163, 1508970993, 2453635748, 2870763221, 3624381080, 310598401, 607225278, 1426881987, 1925078388, 2162078206, 2614888103, 3248222580, 3835390401, 4022224774, 264347078, 604807628, 770255983, 1249150122, 1555081692, 1996064986, 2554220882, 2821834349, 2952996808, 3210313671, 3336571891, 3584528711, 113926993, 338241895, 666307205, 773529912, 1294757372, 1396182291, 1695183700, 1986661051, 2177026350, 2456956037, 2730485921, 2820302411, 3259730800, 3345764771, 3516065817, 3600352804, 4094571909, 275423344, 430227734, 506948616, 659060556, 883997877, 958139571, 1322822218, 1537002063, 1747873779, 1955562222, 2024104815, 2227730452, 2361852424, 2428436474, 2756734187, 3204031479, 3329325298]
theorem zl_ks : ZL = KS.map fun x => (x.toNat : Int) := by kernel_rfl
theorem gTab : Tryd.prog.globalNamed "diorama/hash.constants" = some 0 := by kernel_rfl
theorem gTab2 : Tryd.prog.globalNamed "diorama/dioramaref02.constants" = some 1 := by kernel_rfl
theorem gTabType : (Tryd.prog.globals[0]?).map (·.type) = some 95 := by kernel_rfl
theorem gTabType2 : (Tryd.prog.globals[1]?).map (·.type) = some 95 := by kernel_rfl
theorem cells117 : Tryd.prog.cellsOf 95 = 64 := by kernel_rfl
theorem cells_u32 : Tryd.prog.cellsOf 79 = 1 := by kernel_rfl
theorem tab_cell {W : World} {g : Nat} {name : String} (h : Lib.TabIs Tryd.prog W name .u32 ZL) (hg : Tryd.prog.globalNamed name = some g) (j : Nat) (x : UInt32) (hx : KS[j]? = some x) : W.cell? ⟨g, j, none⟩ = some (w32 x) := by
  obtain ⟨hj, e⟩ := List.getElem?_eq_some_iff.1 hx
  have := h.cell hg j (by rw [zl_ks, List.length_map]; exact hj)
  rw [this, zl_ks, List.getD_eq_getElem?_getD, List.getElem?_map, hx]
  rfl
/-- the reference's round constants lie in block 1 -/
def RConsts (w : World) : Prop := ∀ j x, KS[j]? = some x → w.cell? ⟨1, j, none⟩ = some (w32 x)
theorem RConsts.below {w w' : World} (h : RConsts w) (hb : Below 2 w w') : RConsts w' := fun j x hx => (hb.cell (p := ⟨1, j, none⟩) (by show (1 : Nat) < 2; decide)).trans (h j x hx)
section
set_option maxRecDepth 100000
variable {W : World}
theorem tab_of (h : laidMetH Tryd.prog [("diorama/hash.constants", Rows.laid_diorama_hash_constants)] W) : Lib.TabIs Tryd.prog W "diorama/hash.constants" .u32 ZL :=
  Lib.tabIs_of_head (rest := []) gTab gTabType Tryd.underlying95 Tryd.underlying79 cells_u32 cells117 h
theorem consts_of_tab (h : laidMetH Tryd.prog [("diorama/hash.constants", Rows.laid_diorama_hash_constants)] W) : Consts W := fun j x hx => tab_cell (tab_of h) gTab j x hx
theorem pos_of_consts (h : Consts W) : 0 < W.heap.size := World.block_lt_of_cell? W ⟨0, 0, none⟩ (h 0 (nth KS 0) (by kernel_rfl))
theorem pos_of_tab (h : laidMetH Tryd.prog [("diorama/hash.constants", Rows.laid_diorama_hash_constants)] W) : 0 < W.heap.size := pos_of_consts (consts_of_tab h)
end
/-- a block with the table in it -/
def fillTab : Obj → Obj
  | .cells _ t frozen => .cells #[.int .u32 1116352408, .int .u32 1899447441, .int .u32 3049323471, .int .u32 3921009573, .int .u32 961987163, .int .u32 1508970993, .int .u32 2453635748, .int .u32 2870763221, .int .u32 3624381080, .int .u32 310598401, .int .u32 607225278, .int .u32 1426881987, .int .u32 1925078388, .int .u32 2162078206, .int .u32 2614888103, .int .u32 3248222580, .int .u32 3835390401, .int .u32 4022224774, .int .u32 264347078, .int .u32 604807628, .int .u32 770255983, .int .u32 1249150122, .int .u32 1555081692, .int .u32 1996064986, .int .u32 2554220882, .int .u32 2821834349, .int .u32 2952996808, .int .u32 3210313671, .int .u32 3336571891, .int .u32 3584528711, .int .u32 113926993, .int .u32 338241895, .int .u32 666307205, .int .u32 773529912, .int .u32 1294757372, .int .u32 1396182291, .int .u32 1695183700, .int .u32 1986661051, .int .u32 2177026350, .int .u32 2456956037, .int .u32 2730485921, .int .u32 2820302411, .int .u32 3259730800, .int .u32 3345764771, .int .u32 3516065817, .int .u32 3600352804, .int .u32 4094571909, .int .u32 275423344, .int .u32 430227734, .int .u32 506948616, .int .u32 659060556, .int .u32 883997877, .int .u32 958139571, .int .u32 1322822218, .int .u32 1537002063, .int .u32 1747873779, .int .u32 1955562222, .int .u32 2024104815, .int .u32 2227730452, .int .u32 2361852424, .int .u32 2428436474, .int .u32 2756734187, .int .u32 3204031479, .int .u32 3329325298] t frozen
  | o => o
/-- A WORLD FOR THE WITNESSES: the settled one, the tables (blocks 0 and 1) holding what their initialisers lay. -/
noncomputable def laidWorld (os : Os) : World :=
  { World.holding Tryd.prog os ⟨#[], #[], []⟩ with heap := ((World.holding Tryd.prog os ⟨#[], #[], []⟩).heap.modify 0 fillTab).modify 1 fillTab }
end Go.Proofs.YtnionejefpnfoaaDoor
/- Both tables: what the list of two variables gives. No condition but the list itself. -/
namespace Go.Proofs.YtnionejefpnfoaaDoor
open Go.RowKit
section
set_option maxRecDepth 100000
variable {W : World}
theorem tab_of_two1 (h : laidMetH Tryd.prog [("diorama/dioramaref02.constants", Rows.laid_diorama_dioramaref02_constants), ("diorama/hash.constants", Rows.laid_diorama_hash_constants)] W) : Lib.TabIs Tryd.prog W "diorama/dioramaref02.constants" .u32 ZL :=
  Lib.tabIs_of_head (rest := [("diorama/hash.constants", Rows.laid_diorama_hash_constants)]) gTab2 gTabType2 Tryd.underlying95 Tryd.underlying79 cells_u32 cells117 h
theorem tab_of_two2 (h : laidMetH Tryd.prog [("diorama/dioramaref02.constants", Rows.laid_diorama_dioramaref02_constants), ("diorama/hash.constants", Rows.laid_diorama_hash_constants)] W) : Lib.TabIs Tryd.prog W "diorama/hash.constants" .u32 ZL := by
  have h2 := laidMet.filter (fun p => p.1 == "diorama/hash.constants") h
  rw [List.filter_cons_of_neg (by show ¬ ("diorama/dioramaref02.constants" == "diorama/hash.constants") = true; decide), List.filter_cons_of_pos (by show ("diorama/hash.constants" == "diorama/hash.constants") = true; decide), List.filter_nil] at h2
  exact Lib.tabIs_of_head (rest := []) gTab gTabType Tryd.underlying95 Tryd.underlying79 cells_u32 cells117 h2
theorem rconsts_of_tabs (h : laidMetH Tryd.prog [("diorama/dioramaref02.constants", Rows.laid_diorama_dioramaref02_constants), ("diorama/hash.constants", Rows.laid_diorama_hash_constants)] W) : RConsts W := fun j x hx => tab_cell (tab_of_two1 h) gTab2 j x hx
theorem consts_of_tabs (h : laidMetH Tryd.prog [("diorama/dioramaref02.constants", Rows.laid_diorama_dioramaref02_constants), ("diorama/hash.constants", Rows.laid_diorama_hash_constants)] W) : Consts W := fun j x hx => tab_cell (tab_of_two2 h) gTab j x hx
theorem pos_of_rconsts (h : RConsts W) : 1 < W.heap.size := World.block_lt_of_cell? W ⟨1, 0, none⟩ (h 0 (nth KS 0) (by kernel_rfl))
theorem pos_of_tabs (h : laidMetH Tryd.prog [("diorama/dioramaref02.constants", Rows.laid_diorama_dioramaref02_constants), ("diorama/hash.constants", Rows.laid_diorama_hash_constants)] W) : 1 < W.heap.size := pos_of_rconsts (rconsts_of_tabs h)
end
end Go.Proofs.YtnionejefpnfoaaDoor
/- The reference's SHA-256: rotations, padding, words. No condition but short messages. -/
namespace Go.Proofs.YtnionejefpnfoaaDoor
open Go.RowKit

set_option maxRecDepth 100000 in
set_option maxHeartbeats 1000000 in
theorem rrot_any (x : UInt32) (k : Nat) (w : World) (hk : 1 ≤ k) (hk2 : k < 32) : Calls Tryd.prog 63 #[.int .u32 (x.toNat : Int), .int .i64 (k : Int)] w fun e w' => e = .returned (w32 (rotr x k)) ∧ ∃ n, w' = w.drewN n := by
  have hx := u32_lt x
  have h1 : (0 : Int) ≤ (k : Int) := by omega
  have h2 : (0 : Int) ≤ 32 - (k : Int) := by omega
  have h3 := w_shl x (32 - k) (by omega)
  have h4 := w_shr x k hk2
  go_enter Tryd.func63, Tryd.ntmps63
  go_wp2_with fail
  go_quiet (fail)
  go_wp2_with fail
  go_ret
  refine ⟨ret_w32 ?_, nq, rfl⟩
  rw [Int.natCast_pow] at h3 h4
  have e2 : ((2 : Nat) : Int) = 2 := rfl
  rw [e2] at h3 h4
  rw [h3, h4, w_or]
  unfold rotr ow
  rw [UInt32.or_comm]
def rIn (M : List UInt8) (A : Option Addr) (n : Nat) (w : World) : Prop := Reads w w.heap.size 1 A n (bytesV M)
set_option maxRecDepth 100000 in
set_option maxHeartbeats 4000000 in
theorem rPadded_any (A : Option Addr) (n c : Nat) (m : List UInt8) (w : World) (hl : Reads w w.heap.size 1 A n (bytesV m)) (hn : n ≤ 1000000) (hnc : n ≤ c) :
    Calls Tryd.prog 61 #[.slice A n c] w fun e W' => ∃ v, e = .returned v ∧ W'.ownsRow w.heap.size 5 1 v (m ++ padB m.length).length (bytesV (m ++ padB m.length)) ∧ Below w.heap.size w W' := by
  obtain ⟨i0, hi, hz0, hz1, hz2⟩ := info_parts info_u8
  have el := hl.byte_len
  subst el
  have zl := zeros_lt m.length
  go_enter Tryd.func61, Tryd.ntmps61
  go_wp2_with (first
    | (at_builtin; refine wpList_append_reads _ rfl _ _ 48 rfl w.heap.size 5 i0 (.int .u8 0) 1 1 Tryd.underlying48 hi hz0 hz1 hz2 rfl (by decide) _ _ _ rfl (own_new w 5 #[] _ (Nat.le_refl _) (by unfold maxLen; simp)) _ A m.length c (bytesV m) rfl (hl.alloc (Nat.le_refl _) _) (bytesV_one _) (by unfold maxLen; simp; omega) (by simp; omega) (by simp) ?_; intro v1 w1 hown1 hgrow1; have hb1 : Below w.heap.size w w1 := ((Below.refl _ w).alloc (Nat.le_refl _) _).grown hgrow1 (by simp) (fun k e => by have e2 : some w.heap.size = some k := e; injection e2 with e2; omega))
    | (at_builtin; refine wpList_append_own _ rfl _ _ 48 rfl w.heap.size 5 i0 (.int .u8 0) 1 1 Tryd.underlying48 hi hz0 hz1 hz2 rfl (by decide) _ _ _ rfl (hown1.alloc _) ⟨w1.heap.size, 0, none⟩ 1 1 [.int .u8 128] rfl rfl (cell_one_new _ _ _) (by simp [Value.oneCell']) (by unfold maxLen; simp; omega) (by simp; omega) (by have := hb1.size; simp; omega) ?_; intro v2 w2 hown2 hgrow2 _))
  have hb2 : Below w.heap.size w w2 := (hb1.alloc hb1.size _).grown hgrow2 (by have := hb1.size; simp; omega) (fun k e => (hown1.lt k e).1)
  have hown3 : w2.ownsRow w.heap.size 5 1 v2 (m.length + 1 + 0) (bytesV (m ++ 128 :: List.replicate 0 (0 : UInt8))) := by simpa [bytesV, Nat.add_comm] using hown2
  clear hown1 hgrow1 hb1 hown2 hgrow2
  go_loopw [3] (fun v wr => ∃ j : Nat, j ≤ zeros m.length ∧ wr.ownsRow w.heap.size 5 1 v (m.length + 1 + j) (bytesV (m ++ 128 :: List.replicate j (0 : UInt8))) ∧ Below w.heap.size w wr) (fun v _ => m.length + zeros m.length + 2 - sliceLen v)
  case atStart => exact ⟨0, by omega, hown3, hb2⟩
  case round =>
    clear hown3 hb2
    obtain ⟨j, hj, ho, hb⟩ := hrel
    have hL : ∀ W, _ := own_len ho
    have hsl := own_sliceLen ho
    by_cases hlt : j < zeros m.length
    · have t1 : (((m.length + 1 + j : Nat) : Int)) % 64 ≠ 56 := by have := zeros_min m.length j hlt; omega
      go_wp2_with (first
        | (at_builtin; refine wpList_append_own _ rfl _ _ 48 rfl w.heap.size 5 i0 (.int .u8 0) 1 1 Tryd.underlying48 hi hz0 hz1 hz2 rfl (by decide) _ _ _ rfl (ho.alloc _) ⟨wr.heap.size, 0, none⟩ 1 1 [.int .u8 0] rfl rfl (cell_one_new _ _ _) (by simp [Value.oneCell']) (by unfold maxLen; omega) (by omega) (by have := hb.size; simp; omega) ?_; intro v' w' hown' hgrow' _; have hb' : Below w.heap.size w w' := (hb.alloc hb.size _).grown hgrow' (by have := hb.size; simp; omega) (fun k e => (ho.lt k e).1)))
      go_roundw
      case rel => exact ⟨j + 1, by omega, by
        have e : bytesV (m ++ 128 :: List.replicate (j + 1) (0 : UInt8)) = bytesV (m ++ 128 :: List.replicate j (0 : UInt8)) ++ [.int .u8 0] := by
          rw [List.replicate_succ', ← List.cons_append, ← List.append_assoc, bytesV_append]; rfl
        rw [e]; exact hown', hb'⟩
      case measure => have := own_sliceLen hown'; omega
    · have hjz : j = zeros m.length := by omega
      have t1 : ((m.length : Int) + 1 + (zeros m.length : Int)) % 64 = 56 := by have := zeros_at m.length; omega
      have t2 : (((m.length : Int) + 1 + (zeros m.length : Int)) % 64 != 56) = false := by rw [t1]; rfl
      clear hlt hsl t1
      subst hjz
      go_wp2_with fail
      clear t2 hL hj
      obtain ⟨PZ, hPZ⟩ : ∃ PZ : List UInt8, PZ = m ++ 128 :: List.replicate (zeros m.length) (0 : UInt8) := ⟨_, rfl⟩
      have hPl : PZ.length = m.length + 1 + zeros m.length := by rw [hPZ]; simp; omega
      rw [← hPZ] at ho
      rw [← hPl] at ho
      have HPZ := Lib.hid hPZ
      have HPL := Lib.hid hPl
      clear hPZ hPl
      go_loopw [3, 5] (fun v i wr => ∃ j : Nat, j ≤ 8 ∧ i = .int .i64 (j : Int) ∧ wr.ownsRow w.heap.size 5 1 v (PZ.length + j) (bytesV (PZ ++ lenB m.length j)) ∧ Below w.heap.size w wr) (fun _ i _ => (8 - intOf i).toNat)
      case atStart => exact ⟨0, by omega, rfl, by simpa [lenB] using ho, hb⟩
      case round =>
        clear ho hb
        obtain ⟨j, hj, rfl, ho, hb⟩ := hrel
        by_cases hlt : j < 8
        · have hji : (j : Int) < 8 := by omega
          have hj0 : 0 ≤ 56 - 8 * (j : Int) := by omega
          have hd : 8 * (m.length : Int) / 2 ^ (56 - 8 * j) % 256 = ((8 * m.length / 256 ^ (7 - j) % 256 : Nat) : Int) := by
            rw [show 56 - 8 * j = 8 * (7 - j) by omega, pow_256]; simp
          have HS := Lib.hid (lenB_succ m.length j)
          have hlen : (m.length : Int) ≤ 1000000 := by omega
          go_wp2_with (first
            | (at_builtin; refine wpList_append_own _ rfl _ _ 48 rfl w.heap.size 5 i0 (.int .u8 0) 1 1 Tryd.underlying48 hi hz0 hz1 hz2 rfl (by decide) _ _ _ rfl (ho.alloc _) ⟨wr.heap.size, 0, none⟩ 1 1 [.int .u8 ((8 * m.length / 256 ^ (7 - j) % 256 : Nat) : Int)] rfl rfl (cell_one_new _ _ _) (by simp [Value.oneCell']) (by have := HPL.out; unfold maxLen; omega) (by have := HPL.out; omega) (by have := hb.size; simp; omega) ?_; intro v' w' hown' hgrow' _; have hb' : Below w.heap.size w w' := (hb.alloc hb.size _).grown hgrow' (by have := hb.size; simp; omega) (fun k e => (ho.lt k e).1)))
          have e : bytesV (PZ ++ lenB m.length (j + 1)) = bytesV (PZ ++ lenB m.length j) ++ [.int .u8 ((8 * m.length / 256 ^ (7 - j) % 256 : Nat) : Int)] := by
            rw [HS.out, ← List.append_assoc, bytesV_append]
            congr 1
            rw [bytesV_cons, byt_toNat (Nat.mod_lt _ (by omega))]
            rfl
          rw [← e] at hown'
          have v1 : Value.int .i64 ((j : Int) + 1) = .int .i64 ((j + 1 : Nat) : Int) := by go_num
          clear hd hj0 hlen
          go_roundw
          case rel => first | exact ⟨j + 1, by omega, v1, hown', hb'⟩ | ((repeat apply Exists.intro); exact ⟨⟨j + 1, by omega, v1, hown', hb'⟩, rfl⟩)
          case measure => simp [intOf]; omega
        · obtain rfl : j = 8 := by omega
          go_wp2_with fail
          go_ret
          have ep : PZ ++ lenB m.length 8 = m ++ padB m.length := by rw [HPZ.out, padB]; simp
          have el : PZ.length + 8 = (m ++ padB m.length).length := by rw [← ep, List.length_append, lenB_length]
          rw [ep, el] at ho
          exact ⟨_, rfl, ho, hb⟩
end Go.Proofs.YtnionejefpnfoaaDoor
/- The reference's SHA-256: the words of a block. No condition. -/
namespace Go.Proofs.YtnionejefpnfoaaDoor
open Go.RowKit

theorem word4 {b0 b1 b2 b3 : Nat} (h0 : b0 < 256) (h1 : b1 < 256) (h2 : b2 < 256) (h3 : b3 < 256) :
    bits .or .u32 (bits .or .u32 (bits .or .u32 ((b0 : Int) * 16777216) ((b1 : Int) * 65536)) ((b2 : Int) * 256)) (b3 : Int) = ((b0 * 16777216 + b1 * 65536 + b2 * 256 + b3 : Nat) : Int) := by
  have e0 : (b0 : Int) * 16777216 = ((b0 * 16777216 : Nat) : Int) := by omega
  have e1 : (b1 : Int) * 65536 = ((b1 * 65536 : Nat) : Int) := by omega
  have e2 : (b2 : Int) * 256 = ((b2 * 256 : Nat) : Int) := by omega
  rw [e0, e1, e2]
  rw [u32_or_nat _ _ (by omega) (by omega)]
  have o1 : b0 * 16777216 ||| b1 * 65536 = b0 * 16777216 + b1 * 65536 := by
    rw [Nat.mul_comm b0]; exact (Nat.two_pow_add_eq_or_of_lt (i := 24) (by omega) b0).symm
  rw [o1, u32_or_nat _ _ (by omega) (by omega)]
  have o2 : b0 * 16777216 + b1 * 65536 ||| b2 * 256 = b0 * 16777216 + b1 * 65536 + b2 * 256 := by
    have e : b0 * 16777216 + b1 * 65536 = 2 ^ 16 * (b0 * 256 + b1) := by omega
    rw [e]; exact (Nat.two_pow_add_eq_or_of_lt (i := 16) (by omega) _).symm
  rw [o2, u32_or_nat _ _ (by omega) (by omega)]
  have o3 : b0 * 16777216 + b1 * 65536 + b2 * 256 ||| b3 = b0 * 16777216 + b1 * 65536 + b2 * 256 + b3 := by
    have e : b0 * 16777216 + b1 * 65536 + b2 * 256 = 2 ^ 8 * (b0 * 65536 + b1 * 256 + b2) := by omega
    rw [e]; exact (Nat.two_pow_add_eq_or_of_lt (i := 8) (by omega) _).symm
  rw [o3]
theorem ow_lw8 (x : UInt32) (d : Nat) (hd : d < 256) (hx : x.toNat < 16777216) : (ow (lw x 8) (UInt32.ofNat d)).toNat = x.toNat * 256 + d := by
  have h := w_shl x 8 (by omega)
  have e : ((lw x 8).toNat : Int) = ((x.toNat * 256 : Nat) : Int) := by rw [← h]; show (x.toNat : Int) * 256 % 4294967296 = _; omega
  have e' : (lw x 8).toNat = x.toNat * 256 := by omega
  unfold ow
  rw [UInt32.toNat_or, e', UInt32.toNat_ofNat', Nat.mod_eq_of_lt (by omega), Nat.mul_comm x.toNat 256]
  exact (Nat.two_pow_add_eq_or_of_lt (i := 8) hd _).symm
theorem part4 (b : List UInt8) (t : Nat) : (((b[4 * t]?.getD 0).toNat * 16777216 + (b[4 * t + 1]?.getD 0).toNat * 65536 + (b[4 * t + 2]?.getD 0).toNat * 256 + (b[4 * t + 3]?.getD 0).toNat : Nat) : Int) = ((part b t 4).toNat : Int) := by
  have h0 := (b[4 * t]?.getD 0).toNat_lt
  have h1 := (b[4 * t + 1]?.getD 0).toNat_lt
  have h2 := (b[4 * t + 2]?.getD 0).toNat_lt
  have h3 := (b[4 * t + 3]?.getD 0).toNat_lt
  have p0 : (part b t 1).toNat = (b[4 * t]?.getD 0).toNat := by
    show (ow (lw 0 8) (UInt32.ofNat (b[4 * t + 0]?.getD 0).toNat)).toNat = _
    rw [ow_lw8 0 _ (by show (b[4 * t]?.getD 0).toNat < 256; exact h0) (by decide)]
    simp
  have p1 : (part b t 2).toNat = (part b t 1).toNat * 256 + (b[4 * t + 1]?.getD 0).toNat := ow_lw8 (part b t 1) _ h1 (by omega)
  have p2 : (part b t 3).toNat = (part b t 2).toNat * 256 + (b[4 * t + 2]?.getD 0).toNat := ow_lw8 (part b t 2) _ h2 (by omega)
  have p3 : (part b t 4).toNat = (part b t 3).toNat * 256 + (b[4 * t + 3]?.getD 0).toNat := ow_lw8 (part b t 3) _ h3 (by omega)
  omega
theorem rrot_q (x : UInt32) (k : Nat) (w : World) (n : Nat) (hk : 1 ≤ k) (hk2 : k < 32) : Calls Tryd.prog 63 #[.int .u32 (x.toNat : Int), .int .i64 (k : Int)] (w.drewN n) fun e w'' => e = .returned (.int .u32 ((rotr x k).toNat : Int)) ∧ ∃ m, w'' = w.drewN m :=
  Calls.quiet_of (rrot_any x k (w.drewN n) hk hk2)
theorem rrot7_q (x : UInt32) (w : World) (n : Nat) : Calls Tryd.prog 63 #[.int .u32 (x.toNat : Int), .int .i64 7] (w.drewN n) fun e w'' => e = .returned (.int .u32 ((rotr x 7).toNat : Int)) ∧ ∃ m, w'' = w.drewN m := rrot_q x 7 w n (by omega) (by omega)
theorem rrot18_q (x : UInt32) (w : World) (n : Nat) : Calls Tryd.prog 63 #[.int .u32 (x.toNat : Int), .int .i64 18] (w.drewN n) fun e w'' => e = .returned (.int .u32 ((rotr x 18).toNat : Int)) ∧ ∃ m, w'' = w.drewN m := rrot_q x 18 w n (by omega) (by omega)
theorem rrot17_q (x : UInt32) (w : World) (n : Nat) : Calls Tryd.prog 63 #[.int .u32 (x.toNat : Int), .int .i64 17] (w.drewN n) fun e w'' => e = .returned (.int .u32 ((rotr x 17).toNat : Int)) ∧ ∃ m, w'' = w.drewN m := rrot_q x 17 w n (by omega) (by omega)
theorem rrot19_q (x : UInt32) (w : World) (n : Nat) : Calls Tryd.prog 63 #[.int .u32 (x.toNat : Int), .int .i64 19] (w.drewN n) fun e w'' => e = .returned (.int .u32 ((rotr x 19).toNat : Int)) ∧ ∃ m, w'' = w.drewN m := rrot_q x 19 w n (by omega) (by omega)
theorem rrot6_q (x : UInt32) (w : World) (n : Nat) : Calls Tryd.prog 63 #[.int .u32 (x.toNat : Int), .int .i64 6] (w.drewN n) fun e w'' => e = .returned (.int .u32 ((rotr x 6).toNat : Int)) ∧ ∃ m, w'' = w.drewN m := rrot_q x 6 w n (by omega) (by omega)
theorem rrot11_q (x : UInt32) (w : World) (n : Nat) : Calls Tryd.prog 63 #[.int .u32 (x.toNat : Int), .int .i64 11] (w.drewN n) fun e w'' => e = .returned (.int .u32 ((rotr x 11).toNat : Int)) ∧ ∃ m, w'' = w.drewN m := rrot_q x 11 w n (by omega) (by omega)
theorem rrot25_q (x : UInt32) (w : World) (n : Nat) : Calls Tryd.prog 63 #[.int .u32 (x.toNat : Int), .int .i64 25] (w.drewN n) fun e w'' => e = .returned (.int .u32 ((rotr x 25).toNat : Int)) ∧ ∃ m, w'' = w.drewN m := rrot_q x 25 w n (by omega) (by omega)
theorem rrot2_q (x : UInt32) (w : World) (n : Nat) : Calls Tryd.prog 63 #[.int .u32 (x.toNat : Int), .int .i64 2] (w.drewN n) fun e w'' => e = .returned (.int .u32 ((rotr x 2).toNat : Int)) ∧ ∃ m, w'' = w.drewN m := rrot_q x 2 w n (by omega) (by omega)
theorem rrot13_q (x : UInt32) (w : World) (n : Nat) : Calls Tryd.prog 63 #[.int .u32 (x.toNat : Int), .int .i64 13] (w.drewN n) fun e w'' => e = .returned (.int .u32 ((rotr x 13).toNat : Int)) ∧ ∃ m, w'' = w.drewN m := rrot_q x 13 w n (by omega) (by omega)
theorem rrot22_q (x : UInt32) (w : World) (n : Nat) : Calls Tryd.prog 63 #[.int .u32 (x.toNat : Int), .int .i64 22] (w.drewN n) fun e w'' => e = .returned (.int .u32 ((rotr x 22).toNat : Int)) ∧ ∃ m, w'' = w.drewN m := rrot_q x 22 w n (by omega) (by omega)
set_option maxRecDepth 100000 in
set_option maxHeartbeats 4000000 in
theorem rWords_any (A : Option Addr) (c : Nat) (b : List UInt8) (w : World) (hl : Reads w w.heap.size 1 A 64 (bytesV b)) (hc : 64 ≤ c) :
    Calls Tryd.prog 62 #[.slice A 64 c] w fun e W' => e = .returned (.agg (w32s (schedN b 64)).toArray) ∧ Below w.heap.size w W' := by
  obtain ⟨ad, rfl, -⟩ := hl.byte_at (k := 0) (by omega)
  obtain ⟨C, hC⟩ : ∃ C, C = (w32s (schedN b 64)).toArray := ⟨_, rfl⟩
  rw [← hC]
  have HC := Lib.hid hC
  clear hC
  go_enter Tryd.func62, Tryd.ntmps62
  go_wp2_with fail
  obtain ⟨Z, hZ⟩ : ∃ Z, Z = (w32s (pad [])).toArray := ⟨_, rfl⟩
  go_loopw [4] (fun i wr => ∃ t : Nat, t ≤ 16 ∧ i = .int .i64 t ∧ Blk wr (w.heap.size + 1) 95 (w32s (pad (schedN b t))).toArray ∧ Blk wr w.heap.size 95 Z ∧ Below w.heap.size w wr) (fun i _ => 16 - (intOf i).toNat)
  case atStart =>
    refine ⟨0, by omega, rfl, ?_, ?_, ?_⟩
    · have := Blk.new (w.alloc (.cells (w32s (pad [])).toArray 95)) 95 (w32s (pad [])).toArray; rw [show (w.alloc (.cells (w32s (pad [])).toArray 95)).heap.size = w.heap.size + 1 by simp] at this; exact this
    · rw [hZ]; exact (Blk.new w 95 _).alloc _
    · exact ((Below.refl _ w).alloc (Nat.le_refl _) _).alloc (by simp) _
  case round =>
    obtain ⟨t, ht, rfl, hB, hR, hb⟩ := hrel
    have hz64 : Z.size = 64 := by rw [hZ]; rfl
    have HZ := Lib.hid hz64
    clear hZ hz64
    have hS := schedN_length b t
    by_cases hlt : t < 16
    · have hti : (t : Int) < 16 := by omega
      have ht64 : (t : Int) < 64 := by omega
      obtain ⟨e0, e1, -, -, c0⟩ := (hl.below hb).byte_at (k := 4 * t) (by omega)
      cases e1
      obtain ⟨e0, e1, -, -, c1⟩ := (hl.below hb).byte_at (k := 4 * t + 1) (by omega)
      cases e1
      obtain ⟨e0, e1, -, -, c2⟩ := (hl.below hb).byte_at (k := 4 * t + 2) (by omega)
      cases e1
      obtain ⟨e0, e1, -, -, c3⟩ := (hl.below hb).byte_at (k := 4 * t + 3) (by omega)
      cases e1
      have h0 := (b[4 * t]?.getD 0).toNat_lt
      have h1 := (b[4 * t + 1]?.getD 0).toNat_lt
      have h2 := (b[4 * t + 2]?.getD 0).toNat_lt
      have h3 := (b[4 * t + 3]?.getD 0).toNat_lt
      have hword := word4 h0 h1 h2 h3
      rw [part4 b t] at hword
      have hsw := sched_word hS hlt
      have f1 := hB.frozen t
      have hset := fun (W : World) (h : Blk W (w.heap.size + 1) 95 (w32s (pad (schedN b t))).toArray) => words_set h t (part b t 4)
      rw [hsw] at hset
      have z0 : wr.cell? ⟨w.heap.size + 1, t, none⟩ = some (.int .u32 0) := by have h := pad_zero (W := schedN b t) (by omega); rw [hS] at h; exact words_at hB h
      generalize part b t 4 = X at *
      generalize (b[4 * t]?.getD 0).toNat = b0 at *
      generalize (b[4 * t + 1]?.getD 0).toNat = b1 at *
      generalize (b[4 * t + 2]?.getD 0).toNat = b2 at *
      generalize (b[4 * t + 3]?.getD 0).toNat = b3 at *
      have HSET := Lib.hid hset
      clear hset hsw hS
      obtain ⟨k0, hk0⟩ : ∃ k0, k0 = 4 * t := ⟨_, rfl⟩
      obtain ⟨k1, hk1⟩ : ∃ k1, k1 = 4 * t + 1 := ⟨_, rfl⟩
      obtain ⟨k2, hk2⟩ : ∃ k2, k2 = 4 * t + 2 := ⟨_, rfl⟩
      obtain ⟨k3, hk3⟩ : ∃ k3, k3 = 4 * t + 3 := ⟨_, rfl⟩
      rw [← hk0] at c0
      rw [← hk1] at c1
      rw [← hk2] at c2
      rw [← hk3] at c3
      have w4 : IntKind.i64.wrap (4 * (t : Int)) = (k0 : Int) := by rw [IntWalk.i64_in _ (by omega)]; omega
      have w41 : IntKind.i64.wrap ((k0 : Int) + 1) = (k1 : Int) := by rw [IntWalk.i64_in _ (by omega)]; omega
      have w42 : IntKind.i64.wrap ((k0 : Int) + 2) = (k2 : Int) := by rw [IntWalk.i64_in _ (by omega)]; omega
      have w43 : IntKind.i64.wrap ((k0 : Int) + 3) = (k3 : Int) := by rw [IntWalk.i64_in _ (by omega)]; omega
      have j0 : (k0 : Int) < 64 := by omega
      have j1 : (k1 : Int) < 64 := by omega
      have j2 : (k2 : Int) < 64 := by omega
      have j3 : (k3 : Int) < 64 := by omega
      clear hk0 hk1 hk2 hk3
      go_wp2_with fail
      go_region
      all_goals
        have hB2 := (HSET.out wr hB).drew
        have hR2 := (hR.far (p := ⟨w.heap.size + 1, t, none⟩) (by simp) (.int .u32 (X.toNat : Int))).drew
        have hb2 := (hb.setCell (p := ⟨w.heap.size + 1, t, none⟩) (by simp) (.int .u32 (X.toNat : Int))).drew
        clear hword
        go_wp2_with fail
        go_roundw
        case rel => exact ⟨t + 1, by omega, by go_num, hB2, hR2, hb2⟩
        case measure => simp [intOf]; omega
    · obtain rfl : t = 16 := by omega
      clear hS
      go_wp2_with fail
      go_loopw [5] (fun i wr => ∃ t : Nat, 16 ≤ t ∧ t ≤ 64 ∧ i = .int .i64 t ∧ Blk wr (w.heap.size + 1) 95 (w32s (pad (schedN b t))).toArray ∧ Blk wr w.heap.size 95 Z ∧ Below w.heap.size w wr) (fun i _ => 64 - (intOf i).toNat)
      case atStart => exact ⟨16, by omega, by omega, rfl, hB, hR, hb⟩
      case round =>
        clear hB hR hb
        obtain ⟨t, ht1, ht2, rfl, hB, hR, hb⟩ := hrel
        have hS := schedN_length b t
        by_cases hlt : t < 64
        · have hti : (t : Int) < 64 := by omega
          have HS := Lib.hid hS
          have q15 : wr.cell? ⟨w.heap.size + 1, ((t : Int) - 15).toNat, none⟩ = some (.int .u32 ((nth (schedN b t) (t - 15)).toNat : Int)) := by rw [show ((t : Int) - 15).toNat = t - 15 by omega]; exact words_at hB (pad_get (by omega))
          have q2 : ∀ W, Blk W (w.heap.size + 1) 95 (w32s (pad (schedN b t))).toArray → W.cell? ⟨w.heap.size + 1, ((t : Int) - 2).toNat, none⟩ = some (.int .u32 ((nth (schedN b t) (t - 2)).toNat : Int)) := fun W h => by rw [show ((t : Int) - 2).toNat = t - 2 by omega]; exact words_at h (pad_get (by omega))
          have q16 : ∀ W, Blk W (w.heap.size + 1) 95 (w32s (pad (schedN b t))).toArray → W.cell? ⟨w.heap.size + 1, ((t : Int) - 16).toNat, none⟩ = some (.int .u32 ((nth (schedN b t) (t - 16)).toNat : Int)) := fun W h => by rw [show ((t : Int) - 16).toNat = t - 16 by omega]; exact words_at h (pad_get (by omega))
          have q7 : ∀ W, Blk W (w.heap.size + 1) 95 (w32s (pad (schedN b t))).toArray → W.cell? ⟨w.heap.size + 1, ((t : Int) - 7).toNat, none⟩ = some (.int .u32 ((nth (schedN b t) (t - 7)).toNat : Int)) := fun W h => by rw [show ((t : Int) - 7).toNat = t - 7 by omega]; exact words_at h (pad_get (by omega))
          have z0 : ∀ W, Blk W (w.heap.size + 1) 95 (w32s (pad (schedN b t))).toArray → W.cell? ⟨w.heap.size + 1, t, none⟩ = some (.int .u32 0) := fun W hB => by have h := pad_zero (W := schedN b t) (by omega); rw [hS] at h; exact words_at hB h
          have HN : Hid (nextW b (schedN b t) = aw (aw (aw (nth (schedN b t) (t - 16)) (sig0 (nth (schedN b t) (t - 15)))) (nth (schedN b t) (t - 7))) (sig1 (nth (schedN b t) (t - 2)))) := by
            show nextW b (schedN b t) = _
            unfold nextW
            rw [hS, if_neg (by omega)]
          generalize nth (schedN b t) (t - 15) = x15 at *
          generalize nth (schedN b t) (t - 2) = x2 at *
          generalize nth (schedN b t) (t - 16) = x16 at *
          generalize nth (schedN b t) (t - 7) = x7 at *
          have Q16 := Lib.hid q16
          have Q2 := Lib.hid q2
          have Q7 := Lib.hid q7
          have Z0 := Lib.hid z0
          have b15 := u32_lt x15
          have b2 := u32_lt x2
          clear hS q16 q7 z0 q2
          have p15 : (15 : Int) ≤ (t : Int) := by omega
          have j15 : (t : Int) - 15 < 64 := by omega
          have p2 : (2 : Int) ≤ (t : Int) := by omega
          have j2 : (t : Int) - 2 < 64 := by omega
          have i15 : (0 : Int) ≤ (t : Int) - 15 := by omega
          have i2 : (0 : Int) ≤ (t : Int) - 2 := by omega
          have w15 : IntKind.i64.wrap ((t : Int) - 15) = (t : Int) - 15 := IntWalk.i64_in _ (by omega)
          have w2 : IntKind.i64.wrap ((t : Int) - 2) = (t : Int) - 2 := IntWalk.i64_in _ (by omega)
          have s1 := w_xor (rotr x15 7) (rotr x15 18)
          have s2 := w_shr x15 3 (by omega)
          rw [show ((2 ^ 3 : Nat) : Int) = 8 from rfl] at s2
          have s3 : bits .xor .u32 ((xw (rotr x15 7) (rotr x15 18)).toNat : Int) ((sw x15 3).toNat : Int) = ((sig0 x15).toNat : Int) := w_xor _ _
          go_wp2_with fail
          go_quiet ((go_at_call 63; first | with_reducible exact rrot7_q x15 _ _ | with_reducible exact rrot18_q x15 _ _))
          clear s1 s2 s3 q15 w15 p15 j15 i15
          generalize hW : wr.drewN nq = W1
          have hB1 : Blk W1 (w.heap.size + 1) 95 (w32s (pad (schedN b t))).toArray := hW ▸ hB.drewN nq
          have hR1 : Blk W1 w.heap.size 95 Z := hW ▸ hR.drewN nq
          have hb1 : Below w.heap.size w W1 := hW ▸ below_drewN' hb nq
          clear hW hB hR hb
          have q2 := Q2.out W1 hB1
          have r1 := w_xor (rotr x2 17) (rotr x2 19)
          have r2 := w_shr x2 10 (by omega)
          rw [show ((2 ^ 10 : Nat) : Int) = 1024 from rfl] at r2
          have r3 : bits .xor .u32 ((xw (rotr x2 17) (rotr x2 19)).toNat : Int) ((sw x2 10).toNat : Int) = ((sig1 x2).toNat : Int) := w_xor _ _
          go_wp2_with fail
          go_quiet ((go_at_call 63; first | with_reducible exact rrot17_q x2 _ _ | with_reducible exact rrot19_q x2 _ _))
          clear r1 r2 r3 q2 w2 p2 j2 i2
          rename_i nq2
          generalize hW : W1.drewN _ = W2
          have hB2 : Blk W2 (w.heap.size + 1) 95 (w32s (pad (schedN b t))).toArray := hW ▸ hB1.drewN _
          have hR2 : Blk W2 w.heap.size 95 Z := hW ▸ hR1.drewN _
          have hb2 : Below w.heap.size w W2 := hW ▸ below_drewN' hb1 _
          clear hW hB1 hR1 hb1
          have q16 := Q16.out W2 hB2
          have q7 := Q7.out W2 hB2
          have z0 := Z0.out W2 hB2
          have f1 := hB2.frozen t
          have p16 : (16 : Int) ≤ (t : Int) := by omega
          have p7 : (7 : Int) ≤ (t : Int) := by omega
          have j16 : (t : Int) - 16 < 64 := by omega
          have j7 : (t : Int) - 7 < 64 := by omega
          have w16 : IntKind.i64.wrap ((t : Int) - 16) = (t : Int) - 16 := IntWalk.i64_in _ (by omega)
          have w7 : IntKind.i64.wrap ((t : Int) - 7) = (t : Int) - 7 := IntWalk.i64_in _ (by omega)
          have hset := words_set hB2 t (aw (aw (aw x16 (sig0 x15)) x7) (sig1 x2))
          rw [← HN.out, sched_next HS.out hlt, HN.out] at hset
          generalize sig0 x15 = y0 at *
          generalize sig1 x2 = y1 at *
          have a1 := w_addw x16 y0
          have a2 := w_addw (aw x16 y0) x7
          have a3 := w_addw (aw (aw x16 y0) x7) y1
          go_wp2_with fail
          go_region
          all_goals
            have hB3 := hset.drew
            have hR3 := (hR2.far (p := ⟨w.heap.size + 1, t, none⟩) (by simp) (.int .u32 ((aw (aw (aw x16 y0) x7) y1).toNat : Int))).drew
            have hb3 := (hb2.setCell (p := ⟨w.heap.size + 1, t, none⟩) (by simp) (.int .u32 ((aw (aw (aw x16 y0) x7) y1).toNat : Int))).drew
            go_wp2_with fail
            go_roundw
            case rel =>
              have v1 : Value.int .i64 ((t : Int) + 1) = .int .i64 ((t + 1 : Nat) : Int) := by go_num
              first | exact ⟨t + 1, by omega, by omega, v1, hB3, hR3, hb3⟩ | ((repeat apply Exists.intro); exact ⟨⟨t + 1, by omega, by omega, v1, hB3, hR3, hb3⟩, rfl⟩)
            case measure => simp [intOf]; omega
        · obtain rfl : t = 64 := by omega
          have e64 : pad (schedN b 64) = schedN b 64 := by unfold pad; rw [schedN_length]; simp
          rw [e64] at hB
          have hl64 : (w32s (schedN b 64)).toArray.size = 64 := by simp [w32s, schedN_length]
          have HL := Lib.hid hl64
          have hone : (w32s (schedN b 64)).toArray.all (·.oneCell') = true := w32s_one _
          have HO := Lib.hid hone
          rw [← HC.out] at hB HL HO
          clear hS e64 hl64 hone
          have HI : Hid ((Tryd.prog.info? 95).map (·.size) = some C.size) := Lib.hid (by rw [HL.out]; exact info64)
          have HZC : Hid (Z.size = C.size) := Lib.hid (by rw [HL.out, HZ.out])
          go_wp2_with (first
            | (with_reducible refine wpList_load_row rfl 95 _ rfl (w.heap.size + 1) rfl 95 C (0, 0) _ hB.heap_ Tryd.underlying95 rfl HI.out ?_)
            | (with_reducible refine wpList_store_row rfl 95 _ _ rfl w.heap.size C rfl rfl 95 Z hR.heap_ HI.out HZC.out HO.out ?_))
          refine ret_row (g := w.heap.size) (cs := C) (t := 95) Tryd.results62 ?_ (hR.row C) rfl Tryd.underlying95 HI.out ?_ ?_
          · rfl
          · rfl
          · exact ⟨rfl, below_setRow hb (Nat.le_refl _) C⟩
end Go.Proofs.YtnionejefpnfoaaDoor
/- The reference's SHA-256: Sum. Conditions: its round constants lie in their variable; the message is short. -/
namespace Go.Proofs.YtnionejefpnfoaaDoor
open Go.RowKit

/-- what holds between two blocks -/
structure RSum (w : World) (g c : Nat) (M : List UInt8) (Z : Array Value) (q : St) (wr : World) : Prop where
  b : Below w.heap.size w wr
  r : Blk wr w.heap.size 88 Z
  s : Blk wr (w.heap.size + 1) 80 q.cells
  o : wr.ownsRow (w.heap.size + 2) 5 1 (.slice (some ⟨g, 0, none⟩) M.length c) M.length (bytesV M)
theorem RSum.drewN {w wr : World} {g c : Nat} {M : List UInt8} {Z : Array Value} {q : St} (h : RSum w g c M Z q wr) (n : Nat) : RSum w g c M Z q (wr.drewN n) := ⟨below_drewN' h.b n, h.r.drewN n, h.s.drewN n, h.o⟩
theorem cells_eight (q : St) (x0 x1 x2 x3 x4 x5 x6 x7 : UInt32) : ((((((((q.cells.setIfInBounds 0 (.int .u32 (x0.toNat : Int))).setIfInBounds 1 (.int .u32 (x1.toNat : Int))).setIfInBounds 2 (.int .u32 (x2.toNat : Int))).setIfInBounds 3 (.int .u32 (x3.toNat : Int))).setIfInBounds 4 (.int .u32 (x4.toNat : Int))).setIfInBounds 5 (.int .u32 (x5.toNat : Int))).setIfInBounds 6 (.int .u32 (x6.toNat : Int))).setIfInBounds 7 (.int .u32 (x7.toNat : Int))) = St.cells ⟨x0, x1, x2, x3, x4, x5, x6, x7⟩ := by
  obtain ⟨a, b, c, d, e, f, g, h⟩ := q
  simp [St.cells, w32]
theorem RSum.eight {w wr : World} {g c : Nat} {M : List UInt8} {Z : Array Value} {q : St} (h : RSum w g c M Z q wr) (x0 x1 x2 x3 x4 x5 x6 x7 : UInt32) :
    RSum w g c M Z ⟨x0, x1, x2, x3, x4, x5, x6, x7⟩ ((((((((wr.setCell ⟨w.heap.size + 1, 0, none⟩ (.int .u32 (x0.toNat : Int))).setCell ⟨w.heap.size + 1, 1, none⟩ (.int .u32 (x1.toNat : Int))).setCell ⟨w.heap.size + 1, 2, none⟩ (.int .u32 (x2.toNat : Int))).setCell ⟨w.heap.size + 1, 3, none⟩ (.int .u32 (x3.toNat : Int))).setCell ⟨w.heap.size + 1, 4, none⟩ (.int .u32 (x4.toNat : Int))).setCell ⟨w.heap.size + 1, 5, none⟩ (.int .u32 (x5.toNat : Int))).setCell ⟨w.heap.size + 1, 6, none⟩ (.int .u32 (x6.toNat : Int))).setCell ⟨w.heap.size + 1, 7, none⟩ (.int .u32 (x7.toNat : Int))) := by
  have hs := ((((((((h.s.set_ 0 (.int .u32 (x0.toNat : Int))).set_ 1 (.int .u32 (x1.toNat : Int))).set_ 2 (.int .u32 (x2.toNat : Int))).set_ 3 (.int .u32 (x3.toNat : Int))).set_ 4 (.int .u32 (x4.toNat : Int))).set_ 5 (.int .u32 (x5.toNat : Int))).set_ 6 (.int .u32 (x6.toNat : Int))).set_ 7 (.int .u32 (x7.toNat : Int)))
  rw [cells_eight] at hs
  exact ⟨((((((((h.b.setCell (p := ⟨w.heap.size + 1, 0, none⟩) (by simp) (.int .u32 (x0.toNat : Int))).setCell (p := ⟨w.heap.size + 1, 1, none⟩) (by simp) (.int .u32 (x1.toNat : Int))).setCell (p := ⟨w.heap.size + 1, 2, none⟩) (by simp) (.int .u32 (x2.toNat : Int))).setCell (p := ⟨w.heap.size + 1, 3, none⟩) (by simp) (.int .u32 (x3.toNat : Int))).setCell (p := ⟨w.heap.size + 1, 4, none⟩) (by simp) (.int .u32 (x4.toNat : Int))).setCell (p := ⟨w.heap.size + 1, 5, none⟩) (by simp) (.int .u32 (x5.toNat : Int))).setCell (p := ⟨w.heap.size + 1, 6, none⟩) (by simp) (.int .u32 (x6.toNat : Int))).setCell (p := ⟨w.heap.size + 1, 7, none⟩) (by simp) (.int .u32 (x7.toNat : Int))), ((((((((h.r.far (p := ⟨w.heap.size + 1, 0, none⟩) (by simp) (.int .u32 (x0.toNat : Int))).far (p := ⟨w.heap.size + 1, 1, none⟩) (by simp) (.int .u32 (x1.toNat : Int))).far (p := ⟨w.heap.size + 1, 2, none⟩) (by simp) (.int .u32 (x2.toNat : Int))).far (p := ⟨w.heap.size + 1, 3, none⟩) (by simp) (.int .u32 (x3.toNat : Int))).far (p := ⟨w.heap.size + 1, 4, none⟩) (by simp) (.int .u32 (x4.toNat : Int))).far (p := ⟨w.heap.size + 1, 5, none⟩) (by simp) (.int .u32 (x5.toNat : Int))).far (p := ⟨w.heap.size + 1, 6, none⟩) (by simp) (.int .u32 (x6.toNat : Int))).far (p := ⟨w.heap.size + 1, 7, none⟩) (by simp) (.int .u32 (x7.toNat : Int))), hs, (ownsRow_setCell_below (ownsRow_setCell_below (ownsRow_setCell_below (ownsRow_setCell_below (ownsRow_setCell_below (ownsRow_setCell_below (ownsRow_setCell_below (ownsRow_setCell_below h.o (a := ⟨w.heap.size + 1, 0, none⟩) (by simp) (.int .u32 (x0.toNat : Int))) (a := ⟨w.heap.size + 1, 1, none⟩) (by simp) (.int .u32 (x1.toNat : Int))) (a := ⟨w.heap.size + 1, 2, none⟩) (by simp) (.int .u32 (x2.toNat : Int))) (a := ⟨w.heap.size + 1, 3, none⟩) (by simp) (.int .u32 (x3.toNat : Int))) (a := ⟨w.heap.size + 1, 4, none⟩) (by simp) (.int .u32 (x4.toNat : Int))) (a := ⟨w.heap.size + 1, 5, none⟩) (by simp) (.int .u32 (x5.toNat : Int))) (a := ⟨w.heap.size + 1, 6, none⟩) (by simp) (.int .u32 (x6.toNat : Int))) (a := ⟨w.heap.size + 1, 7, none⟩) (by simp) (.int .u32 (x7.toNat : Int)))⟩
/-- what holds while the result is written -/
structure ROuts (w : World) (q : St) (Z : Array Value) (B j : Nat) (wr : World) : Prop where
  b : Below w.heap.size w wr
  r : Blk wr w.heap.size 88 Z
  s : Blk wr (w.heap.size + 1) 80 q.cells
  o : Blk wr B 88 (bytesV (outTo q j) ++ List.replicate (32 - j) (Value.int .u8 0)).toArray
  z : w.heap.size + 1 < B
theorem ROuts.put {w wr : World} {Z : Array Value} {B j x : Nat} {q : St} (h : ROuts w q Z B j wr) (hj : j < 32) (e : outTo q (j + 1) = outTo q j ++ [byt x]) (hx : x < 256) :
    ROuts w q Z B (j + 1) (wr.setCell ⟨B, j, none⟩ (.int .u8 (x : Int))) := by
  have hz := h.z
  refine ⟨h.b.setCell (by simp; omega) _, h.r.far (by simp; omega) _, h.s.far (by simp; omega) _, ?_, h.z⟩
  have := h.o.set_ j (.int .u8 (x : Int))
  have e2 : (bytesV (outTo q j) ++ List.replicate (32 - j) (Value.int .u8 0)).toArray.setIfInBounds j (.int .u8 (x : Int)) = (bytesV (outTo q (j + 1)) ++ List.replicate (32 - (j + 1)) (Value.int .u8 0)).toArray := by
    have hb : bytesV [byt x] = [.int .u8 (x : Int)] := by rw [bytesV_cons, byt_toNat hx]; rfl
    have hl : (bytesV (outTo q j)).length = j := by rw [bytesV_length, outTo_length]
    rw [List.setIfInBounds_toArray, e, bytesV_append, hb, List.set_append_right _ _ (by omega), hl, Nat.sub_self, show 32 - j = (32 - (j + 1)) + 1 by omega, List.replicate_succ, List.set_cons_zero, List.append_assoc]
    rfl
  rw [e2] at this
  exact this
theorem pad64 (m : List UInt8) : 64 * ((m ++ padB m.length).length / 64) = (m ++ padB m.length).length := by
  rw [List.length_append, padB_length]
  unfold zeros
  omega
theorem w_notc (x : UInt32) : bits .xor .u32 (x.toNat : Int) 4294967295 = ((cw x).toNat : Int) := by
  have h : (4294967295 : Int) = ((4294967295 : UInt32).toNat : Int) := by decide
  have h2 : IntKind.u32.max = ((4294967295 : UInt32).toNat : Int) := by decide
  have h3 := w_not x
  rw [h2, w_xor] at h3
  rw [h, w_xor, ← h3]
  unfold xw
  rw [UInt32.xor_comm]
theorem own_thru0 {W W' : World} {base size k : Nat} {e : TypeId} {v : Value} {xs : List Value} (h : W.ownsRow base e size v k xs) (hb : Below W.heap.size W W') : W'.ownsRow base e size v k xs := by
  refine h.kept ⟨hb.os, hb.tape, hb.output, hb.size, fun k hk _ => hb.block k hk⟩ (row := none) ?_
  rcases h.2 with ⟨rfl, _⟩ | ⟨g', cap, cur, rfl, _⟩
  · exact .inl rfl
  · exact .inr (by simp [Value.ownBlock])
theorem own_row2 {w : World} {base size n g c : Nat} {e : TypeId} {xs : List Value} {o : Obj} (h : (w.alloc o).ownsRow base e size (.slice (some ⟨g, 0, none⟩) n c) n xs) (C : Array Value) (hg : g < w.heap.size := by assumption) : ((w.alloc o).setRow w.heap.size C).ownsRow base e size (.slice (some ⟨g, 0, none⟩) n c) n xs := by
  refine ⟨h.1, ?_⟩
  rcases h.2 with h | ⟨g', cap, cur, h1, h2, h3, h4⟩
  · exact .inl h
  · have e2 : g = g' := by injection h1 with h1; injection h1 with h1; injection h1
    exact .inr ⟨g', cap, cur, h1, h2, (setRow_other _ _ g' C (by omega)).trans h3, h4⟩
theorem own_setRow {w : World} {base size n g : Nat} {e : TypeId} {v : Value} {xs : List Value} (h : w.ownsRow base e size v n xs) (hg : g < base) (cs : Array Value) : (w.setRow g cs).ownsRow base e size v n xs := by
  refine ⟨h.1, ?_⟩
  rcases h.2 with h | ⟨g', cap, cur, h1, h2, h3, h4⟩
  · exact .inl h
  · exact .inr ⟨g', cap, cur, h1, h2, (setRow_other w g g' cs (by omega)).trans h3, h4⟩
theorem addr_plus (g a j : Nat) : (⟨g, a, none⟩ : Addr).add j = ⟨g, a + j, none⟩ := by
  unfold Addr.add; split <;> simp_all
theorem rrot2_a (x : UInt32) (w : World) : Calls Tryd.prog 63 #[.int .u32 (x.toNat : Int), .int .i64 2] w fun e w' => e = .returned (.int .u32 ((rotr x 2).toNat : Int)) ∧ ∃ n, w' = w.drewN n := rrot_any x 2 w (by omega) (by omega)
theorem rrot13_a (x : UInt32) (w : World) : Calls Tryd.prog 63 #[.int .u32 (x.toNat : Int), .int .i64 13] w fun e w' => e = .returned (.int .u32 ((rotr x 13).toNat : Int)) ∧ ∃ n, w' = w.drewN n := rrot_any x 13 w (by omega) (by omega)
theorem rrot22_a (x : UInt32) (w : World) : Calls Tryd.prog 63 #[.int .u32 (x.toNat : Int), .int .i64 22] w fun e w' => e = .returned (.int .u32 ((rotr x 22).toNat : Int)) ∧ ∃ n, w' = w.drewN n := rrot_any x 22 w (by omega) (by omega)
/-- the state behind some rounds, in the slots -/
def stV (q : St) : List Value := [w32 q.a, w32 q.b, w32 q.c, w32 q.d, w32 q.e, w32 q.f, w32 q.g, w32 q.h]
theorem info74 : (Tryd.prog.info? 80).map (·.size) = some 8 := by kernel_rfl
set_option maxRecDepth 100000 in
set_option maxHeartbeats 8000000 in
theorem rSum_any (A : Option Addr) (n c : Nat) (m : List UInt8) (w : World) (hl : Reads w w.heap.size 1 A n (bytesV m)) (hn : n ≤ 1000000) (hnc : n ≤ c) (hK : RConsts w) (h1 : 1 < w.heap.size) :
    Calls Tryd.prog 57 #[.slice A n c] w fun e W' => e = .returned (.agg (bytesV (sha m)).toArray) ∧ Below w.heap.size w W' := by
  have el := hl.byte_len
  subst el
  obtain ⟨Z, hZ⟩ : ∃ Z : Array Value, Z = (List.replicate 32 (Value.int .u8 0)).toArray := ⟨_, rfl⟩
  have hpad := fun (W : World) (hW : Below w.heap.size w W) => rPadded_any A m.length c m W ((hl.below hW).more hW.size) hn hnc
  have h64 := pad64 m
  have hMl : (m ++ padB m.length).length ≤ 1000100 := by rw [List.length_append, padB_length]; have := zeros_lt m.length; omega
  have hMp : 0 < (m ++ padB m.length).length := by rw [List.length_append, padB_length]; omega
  have hsh : sha m = outTo (stN (m ++ padB m.length) ((m ++ padB m.length).length / 64)) 32 := rfl
  rw [hsh]
  clear hsh
  generalize m ++ padB m.length = M at *
  obtain ⟨K, hKK⟩ : ∃ K, K = M.length / 64 := ⟨_, rfl⟩
  rw [← hKK] at h64 ⊢
  obtain ⟨R, hR⟩ : ∃ R, R = (bytesV (outTo (stN M K) 32)).toArray := ⟨_, rfl⟩
  rw [← hR]
  have HR := Lib.hid hR
  clear hR
  have HPAD := Lib.hid hpad
  clear hpad hKK
  go_enter Tryd.func57, Tryd.ntmps57
  go_wp2_with fail
  refine (HPAD.out _ ?_).mono ?_
  · exact ((Below.refl _ w).alloc (Nat.le_refl _) _).alloc (by simp) _
  rintro E w1 ⟨v, rfl, o1, b1⟩
  obtain ⟨g, c1, rfl, hg2, hg3⟩ := o1.form hMp
  have hc1 : M.length ≤ c1 := by obtain ⟨A', c', e, hc, -⟩ := own_slice o1; injection e with _ _ e; omega
  have I0 : RSum w g c1 M Z S0 w1 := by
    have e1 : (#[Value.int .u32 1779033703, .int .u32 3144134277, .int .u32 1013904242, .int .u32 2773480762, .int .u32 1359893119, .int .u32 2600822924, .int .u32 528734635, .int .u32 1541459225] : Array Value) = S0.cells := by kernel_rfl
    have e2 : (#[Value.int .u8 0, .int .u8 0, .int .u8 0, .int .u8 0, .int .u8 0, .int .u8 0, .int .u8 0, .int .u8 0, .int .u8 0, .int .u8 0, .int .u8 0, .int .u8 0, .int .u8 0, .int .u8 0, .int .u8 0, .int .u8 0, .int .u8 0, .int .u8 0, .int .u8 0, .int .u8 0, .int .u8 0, .int .u8 0, .int .u8 0, .int .u8 0, .int .u8 0, .int .u8 0, .int .u8 0, .int .u8 0, .int .u8 0, .int .u8 0, .int .u8 0, .int .u8 0] : Array Value) = Z := by rw [hZ]; kernel_rfl
    rw [e1, e2] at b1 o1
    have hsz : ((w.alloc (.cells Z 88)).alloc (.cells S0.cells 80)).heap.size = w.heap.size + 2 := by simp
    rw [hsz] at o1
    refine ⟨?_, ?_, ?_, o1⟩
    · exact (((Below.refl _ w).alloc (Nat.le_refl _) _).alloc (by simp) _).trans (b1.mono (by rw [hsz]; omega))
    · exact ((Blk.new w 88 Z).alloc _).thru b1
    · exact (Blk.new' (by simp) : Blk ((w.alloc (.cells Z 88)).alloc (.cells S0.cells 80)) (w.heap.size + 1) 80 S0.cells).thru b1
  clear o1 b1 hl
  have HZ : Hid (Z.size = 32) := Lib.hid (by rw [hZ]; rfl)
  clear hZ
  go_wp2_with fail
  go_loopw [5] (fun i wr => ∃ k : Nat, k ≤ K ∧ i = .int .i64 ((64 * k : Nat) : Int) ∧ RSum w g c1 M Z (stN M k) wr) (fun i _ => (64 * K - intOf i).toNat)
  case atStart => exact ⟨0, by omega, rfl, I0⟩
  case round =>
    clear I0
    obtain ⟨k, hk, rfl, hI⟩ := hrel
    by_cases hlt : k < K
    · have hki : ((64 * k : Nat) : Int) < (M.length : Int) := by omega
      have hk64 : 64 * k + 64 ≤ M.length := by omega
      have hrd : Reads wr wr.heap.size 1 (some ⟨g, 64 * k, none⟩) 64 (bytesV (blk M k))  := by
        have ho := hI.o
        have hg := (Reads.of_own ho).2 hMp
        obtain ⟨ad, e, hlt2, hcell⟩ := hg
        injection e with e
        subst e
        refine ⟨?_, fun _ => ⟨_, rfl, hlt2, fun j u hu => ?_⟩⟩
        · rw [bytesV_length, blk, List.length_take, List.length_drop]; omega
        · rw [addr_plus]
          have := hcell (64 * k + j) u (by
            rw [bytesV_get] at hu ⊢
            rw [blk, List.getElem?_take] at hu
            split at hu
            · rw [List.getElem?_drop] at hu; exact hu
            · cases hu)
          rw [addr_add0] at this
          exact this
      have hwd := rWords_any (some ⟨g, 64 * k, none⟩) (c1 - 64 * k) (blk M k) wr hrd (by omega)
      have hst : stN M (k + 1) = comp (stN M k) (blk M k) := rfl
      generalize blk M k = bb at *
      generalize hq : stN M k = q at *
      obtain ⟨C, hC⟩ : ∃ C, C = (w32s (schedN bb 64)).toArray := ⟨_, rfl⟩
      rw [← hC] at hwd
      have HC := Lib.hid hC
      have HST := Lib.hid hst
      have HW := Lib.hid hwd
      clear hC hst hwd hrd
      go_wp2_with fail
      refine HW.out.mono ?_
      rintro E w2 ⟨rfl, b2⟩
      have hI2 : RSum w g c1 M Z q w2 := ⟨hI.b.trans (b2.mono hI.b.size), hI.r.thru b2, hI.s.thru b2, own_thru0 hI.o b2⟩
      clear hI
      have HCL : Hid (C.size = 64) := Lib.hid (by rw [HC.out]; simp [w32s, schedN_length])
      have HC1 : Hid (C.all (·.oneCell') = true) := Lib.hid (by rw [HC.out]; exact w32s_one _)
      have HC2 : Hid ((Tryd.prog.info? 95).map (·.size) = some C.size) := Lib.hid (by rw [HCL.out]; exact info64)
      go_wp2_with (first
        | ((with_reducible refine wpList_store_row rfl 95 _ _ rfl w2.heap.size C rfl rfl 95 _ (heap_alloc_new w2 _) HC2.out ?_ HC1.out ?_); (focus (rw [HCL.out]; rfl))))
      refine wp_world fun w3 hw3 => ?_
      have hI3 : RSum w g c1 M Z q w3 := by
        rw [hw3]
        have hs := hI2.s.lt
        have hr := hI2.r.lt
        have hgl : g < w2.heap.size := by
          obtain ⟨g', c', e, -, hlt2⟩ := hI2.o.form hMp
          have e2 : g = g' := by injection e with e; injection e with e; injection e
          omega
        exact ⟨below_setRow (hI2.b.alloc hI2.b.size _) hI2.b.size C, (hI2.r.alloc _).rowFar (by omega) C, (hI2.s.alloc _).rowFar (by omega) C, own_row2 (hI2.o.alloc _) C hgl⟩
      have hC3 : Blk w3 w2.heap.size 95 C := by rw [hw3]; exact (Blk.new w2 95 _).row C
      have hgC : w.heap.size + 1 < w2.heap.size := hI2.s.lt
      clear hw3 hI2 b2
      generalize w2.heap.size = gC at *
      obtain ⟨a, b, cc, d, e, f, gg, h⟩ := q
      have u0 : w3.cell? ⟨w.heap.size + 1, 0, none⟩ = some (.int .u32 (a.toNat : Int)) := hI3.s.at_ rfl
      have u1 : w3.cell? ⟨w.heap.size + 1, 1, none⟩ = some (.int .u32 (b.toNat : Int)) := hI3.s.at_ rfl
      have u2 : w3.cell? ⟨w.heap.size + 1, 2, none⟩ = some (.int .u32 (cc.toNat : Int)) := hI3.s.at_ rfl
      have u3 : w3.cell? ⟨w.heap.size + 1, 3, none⟩ = some (.int .u32 (d.toNat : Int)) := hI3.s.at_ rfl
      have u4 : w3.cell? ⟨w.heap.size + 1, 4, none⟩ = some (.int .u32 (e.toNat : Int)) := hI3.s.at_ rfl
      have u5 : w3.cell? ⟨w.heap.size + 1, 5, none⟩ = some (.int .u32 (f.toNat : Int)) := hI3.s.at_ rfl
      have u6 : w3.cell? ⟨w.heap.size + 1, 6, none⟩ = some (.int .u32 (gg.toNat : Int)) := hI3.s.at_ rfl
      have u7 : w3.cell? ⟨w.heap.size + 1, 7, none⟩ = some (.int .u32 (h.toNat : Int)) := hI3.s.at_ rfl
      go_quiet (fail)
      clear u0 u1 u2 u3 u4 u5 u6 u7
      generalize hW : w3.drewN nq = w4
      have hI4 : RSum w g c1 M Z ⟨a, b, cc, d, e, f, gg, h⟩ w4 := hW ▸ hI3.drewN nq
      have hC4 : Blk w4 gC 95 C := hW ▸ hC3.drewN nq
      clear hW hI3 hC3
      generalize hss : (⟨a, b, cc, d, e, f, gg, h⟩ : St) = ss at *
      have HSS := Lib.hid hss
      go_wp2_with fail
      go_loopw [7, 8, 9, 10, 11, 12, 13, 14, 15] (fun v7 v8 v9 v10 v11 v12 v13 v14 i wr => ∃ (t : Nat) (p : St), t ≤ 64 ∧ i = .int .i64 (t : Int) ∧ Hid (p = ss.rnds (schedN bb 64) t) ∧ v7 = .int .u32 (p.a.toNat : Int) ∧ v8 = .int .u32 (p.b.toNat : Int) ∧ v9 = .int .u32 (p.c.toNat : Int) ∧ v10 = .int .u32 (p.d.toNat : Int) ∧ v11 = .int .u32 (p.e.toNat : Int) ∧ v12 = .int .u32 (p.f.toNat : Int) ∧ v13 = .int .u32 (p.g.toNat : Int) ∧ v14 = .int .u32 (p.h.toNat : Int) ∧ RSum w g c1 M Z ss wr ∧ Blk wr gC 95 C) (fun _ _ _ _ _ _ _ _ i _ => (64 - intOf i).toNat)
      case atStart =>
        refine ⟨0, ⟨a, b, cc, d, e, f, gg, h⟩, by omega, rfl, Lib.hid (by rw [hss]; rfl), rfl, rfl, rfl, rfl, rfl, rfl, rfl, rfl, hI4, hC4⟩
      case round =>
        clear hI4 hC4 hss
        obtain ⟨t, ⟨pa, pb, pc, pd, pe, pf, pg, ph⟩, ht, rfl, HP, rfl, rfl, rfl, rfl, rfl, rfl, rfl, rfl, hI, hC⟩ := hrel
        by_cases htl : t < 64
        · have hti : (t : Int) < 64 := by omega
          have hk : wr.cell? ⟨1, t, none⟩ = some (.int .u32 ((nth KS t).toNat : Int)) := (hK.below (hI.b.mono (by omega))) t (nth KS t) (by unfold nth; rw [List.getElem?_eq_getElem (show t < KS.length from htl)]; rfl)
          have hwt : wr.cell? ⟨gC, t, none⟩ = some (.int .u32 ((nth (schedN bb 64) t).toNat : Int)) := hC.at_ (by
            rw [HC.out, List.getElem?_toArray, w32s_get]
            unfold nth
            rw [List.getElem?_eq_getElem (by rw [schedN_length]; exact htl)]; rfl)
          have HN : Hid (ss.rnds (schedN bb 64) (t + 1) = (⟨pa, pb, pc, pd, pe, pf, pg, ph⟩ : St).rnd (nth KS t) (nth (schedN bb 64) t)) := by
            show ss.rnds (schedN bb 64) (t + 1) = _
            rw [HP.out]; rfl
          generalize nth (schedN bb 64) t = wt at *
          generalize nth KS t = kt at *
          dsimp only
          have x1 := w_xor (rotr pe 6) (rotr pe 11)
          have x2 : bits .xor .u32 ((xw (rotr pe 6) (rotr pe 11)).toNat : Int) ((rotr pe 25).toNat : Int) = ((mixU pe 6 11 25).toNat : Int) := w_xor _ _
          have m1 := w_addw ph (mixU pe 6 11 25)
          have m2 := w_and pe pf
          have m3 := w_notc pe
          have m4 := w_and (cw pe) pg
          have m5 := w_xor (nw pe pf) (nw (cw pe) pg)
          have m6 := w_addw (aw ph (mixU pe 6 11 25)) (xw (nw pe pf) (nw (cw pe) pg))
          have m7 := w_addw (aw (aw ph (mixU pe 6 11 25)) (xw (nw pe pf) (nw (cw pe) pg))) kt
          have m8 := w_addw (aw (aw (aw ph (mixU pe 6 11 25)) (xw (nw pe pf) (nw (cw pe) pg))) kt) wt
          have m1' := w_add ph (mixU pe 6 11 25)
          have m6' := w_add (aw ph (mixU pe 6 11 25)) (xw (nw pe pf) (nw (cw pe) pg))
          have m7' := w_add (aw (aw ph (mixU pe 6 11 25)) (xw (nw pe pf) (nw (cw pe) pg))) kt
          have m8' := w_add (aw (aw (aw ph (mixU pe 6 11 25)) (xw (nw pe pf) (nw (cw pe) pg))) kt) wt
          go_wp2_with fail
          go_quiet ((go_at_call 63; first | with_reducible exact rrot6_q pe _ _ | with_reducible exact rrot11_q pe _ _ | with_reducible exact rrot25_q pe _ _))
          clear x1 x2 m1 m2 m3 m4 m5 m6 m7 m8 m1' m6' m7' m8' hk hwt
          have HX : Hid (aw (aw (aw (aw ph (mixU pe 6 11 25)) (xw (nw pe pf) (nw (cw pe) pg))) kt) wt = rndX ⟨pa, pb, pc, pd, pe, pf, pg, ph⟩ kt wt) := Lib.hid rfl
          generalize aw (aw (aw (aw ph (mixU pe 6 11 25)) (xw (nw pe pf) (nw (cw pe) pg))) kt) wt = X at *
          have y1 := w_xor (rotr pa 2) (rotr pa 13)
          have y2 : bits .xor .u32 ((xw (rotr pa 2) (rotr pa 13)).toNat : Int) ((rotr pa 22).toNat : Int) = ((mixU pa 2 13 22).toNat : Int) := w_xor _ _
          have n1 := w_and pa pb
          have n2 := w_and pa pc
          have n3 := w_xor (nw pa pb) (nw pa pc)
          have n4 := w_and pb pc
          have n5 := w_xor (xw (nw pa pb) (nw pa pc)) (nw pb pc)
          have n6 := w_addw (mixU pa 2 13 22) (xw (xw (nw pa pb) (nw pa pc)) (nw pb pc))
          have n6' := w_add (mixU pa 2 13 22) (xw (xw (nw pa pb) (nw pa pc)) (nw pb pc))
          have HY : Hid (aw (mixU pa 2 13 22) (xw (xw (nw pa pb) (nw pa pc)) (nw pb pc)) = rndY ⟨pa, pb, pc, pd, pe, pf, pg, ph⟩) := Lib.hid rfl
          generalize hYY : aw (mixU pa 2 13 22) (xw (xw (nw pa pb) (nw pa pc)) (nw pb pc)) = Y at *
          clear hYY
          have q1 := w_addw pd X
          have q1' := w_add pd X
          have q2 := w_addw X Y
          have q2' := w_add X Y
          go_wp2_with fail
          refine (rrot2_a pa _).mono ?_
          rintro E w5 ⟨rfl, d1, rfl⟩
          go_wp2_with fail
          refine (rrot13_a pa _).mono ?_
          rintro E w5 ⟨rfl, d2, rfl⟩
          go_wp2_with fail
          refine (rrot22_a pa _).mono ?_
          rintro E w5 ⟨rfl, d3, rfl⟩
          go_wp2_with fail
          have hI5 := hI.drewN (nq + d1 + d2 + d3)
          have hC5 := hC.drewN (nq + d1 + d2 + d3)
          have hp : Hid ((⟨aw X Y, pa, pb, pc, aw pd X, pe, pf, pg⟩ : St) = ss.rnds (schedN bb 64) (t + 1)) := by
            show _ = _
            rw [HN.out, HX.out, HY.out]; rfl
          have v1 : Value.int .i64 ((t : Int) + 1) = .int .i64 ((t + 1 : Nat) : Int) := by go_num
          go_roundw
          case rel => first | exact ⟨t + 1, ⟨aw X Y, pa, pb, pc, aw pd X, pe, pf, pg⟩, by omega, v1, hp, rfl, rfl, rfl, rfl, rfl, rfl, rfl, rfl, hI5, hC5⟩ | ((repeat apply Exists.intro); exact ⟨⟨t + 1, ⟨aw X Y, pa, pb, pc, aw pd X, pe, pf, pg⟩, by omega, v1, hp, rfl, rfl, rfl, rfl, rfl, rfl, rfl, rfl, hI5, hC5⟩, rfl⟩)
          case measure => simp [intOf]; omega
        · obtain rfl : t = 64 := by omega
          clear htl ht
          have hs := HSS.out
          subst hs
          have u0 : wr.cell? ⟨w.heap.size + 1, 0, none⟩ = some (.int .u32 (a.toNat : Int)) := hI.s.at_ rfl
          have u1 : wr.cell? ⟨w.heap.size + 1, 1, none⟩ = some (.int .u32 (b.toNat : Int)) := hI.s.at_ rfl
          have u2 : wr.cell? ⟨w.heap.size + 1, 2, none⟩ = some (.int .u32 (cc.toNat : Int)) := hI.s.at_ rfl
          have u3 : wr.cell? ⟨w.heap.size + 1, 3, none⟩ = some (.int .u32 (d.toNat : Int)) := hI.s.at_ rfl
          have u4 : wr.cell? ⟨w.heap.size + 1, 4, none⟩ = some (.int .u32 (e.toNat : Int)) := hI.s.at_ rfl
          have u5 : wr.cell? ⟨w.heap.size + 1, 5, none⟩ = some (.int .u32 (f.toNat : Int)) := hI.s.at_ rfl
          have u6 : wr.cell? ⟨w.heap.size + 1, 6, none⟩ = some (.int .u32 (gg.toNat : Int)) := hI.s.at_ rfl
          have u7 : wr.cell? ⟨w.heap.size + 1, 7, none⟩ = some (.int .u32 (h.toNat : Int)) := hI.s.at_ rfl
          dsimp only
          have r0 := w_add a pa
          have r1 := w_add b pb
          have r2 := w_add cc pc
          have r3 := w_add d pd
          have r4 := w_add e pe
          have r5 := w_add f pf
          have r6 := w_add gg pg
          have r7 := w_add h ph
          have s0 := w_addw a pa
          have s1 := w_addw b pb
          have s2 := w_addw cc pc
          have s3 := w_addw d pd
          have s4 := w_addw e pe
          have s5 := w_addw f pf
          have s6 := w_addw gg pg
          have s7 := w_addw h ph
          have hnew : Hid ((⟨aw a pa, aw b pb, aw cc pc, aw d pd, aw e pe, aw f pf, aw gg pg, aw h ph⟩ : St) = stN M (k + 1)) := by
            show _ = _
            rw [HST.out]
            show _ = St.plus _ _
            rw [← HP.out]; rfl
          have hI6 := hI.eight (aw a pa) (aw b pb) (aw cc pc) (aw d pd) (aw e pe) (aw f pf) (aw gg pg) (aw h ph)
          rw [hnew.out] at hI6
          have f0 := hI.s.frozen 0
          have f1 := hI.s.frozen 1
          have f2 := hI.s.frozen 2
          have f3 := hI.s.frozen 3
          have f4 := hI.s.frozen 4
          have f5 := hI.s.frozen 5
          have f6 := hI.s.frozen 6
          have f7 := hI.s.frozen 7
          go_wp2_with fail
          go_roundw
          case rel => exact ⟨k + 1, by omega, by congr 1, hI6⟩
          case measure => simp [intOf]; omega
    · obtain rfl : k = K := by omega
      have hki : ¬ ((64 * k : Nat) : Int) < (M.length : Int) := by omega
      generalize stN M k = q at *
      obtain ⟨ib, ir, is, io⟩ := hI
      go_wp2_with fail
      have O0 : ROuts w q Z wr.heap.size 0 (wr.alloc (.cells (List.replicate 32 (Value.int .u8 0)).toArray 88)) := by
        refine ⟨ib.alloc ib.size _, ir.alloc _, is.alloc _, Blk.new wr 88 _, ?_⟩
        have := is.lt
        omega
      generalize wr.heap.size = B at *
      clear ib ir is io hki hk
      go_loopw [19] (fun i wr => ∃ j : Nat, j ≤ 32 ∧ i = .int .i64 (j : Int) ∧ ROuts w q Z B j wr) (fun i _ => (32 - intOf i).toNat)
      case atStart => exact ⟨0, by omega, rfl, O0⟩
      case round =>
        clear O0
        obtain ⟨j, hj, rfl, hO⟩ := hrel
        by_cases hlt : j < 32
        · have hji : (j : Int) < 32 := by omega
          obtain ⟨a, ha⟩ : ∃ a, a = j / 4 := ⟨_, rfl⟩
          obtain ⟨r, hr⟩ : ∃ r, r = j % 4 := ⟨_, rfl⟩
          have ha2 : (j : Int).tdiv 4 = (a : Int) := by rw [Int.tdiv_eq_ediv_of_nonneg (by omega)]; omega
          have ha3 : (j : Int) / 4 = (a : Int) := by omega
          have hr2 : (j : Int) % 4 = (r : Int) := by omega
          have ha8 : (a : Int) < 8 := by omega
          have hr3 : 0 ≤ 24 - 8 * (r : Int) := by omega
          have hqa : q.cells[a]? = some (.int .u32 ((q.word a).toNat : Int)) := by
            have ha8' : a < 8 := by omega
            rcases (by omega : a = 0 ∨ a = 1 ∨ a = 2 ∨ a = 3 ∨ a = 4 ∨ a = 5 ∨ a = 6 ∨ a = 7) with h | h | h | h | h | h | h | h <;> (rw [h]; rfl)
          have hc : wr.cell? ⟨w.heap.size + 1, a, none⟩ = some (.int .u32 ((q.word a).toNat : Int)) := hO.s.at_ hqa
          have hx := outTo_succ q j
          rw [← ha, ← hr] at hx
          have hfb := hO.o.frozen j
          have hcb : wr.cell? ⟨B, j, none⟩ = some (.int .u8 0) := hO.o.at_ (out_at q hlt)
          have hd : ((q.word a).toNat : Int) / 2 ^ (24 - 8 * r) % 256 = (((q.word a).toNat / 256 ^ (3 - r) % 256 : Nat) : Int) := by
            rw [show 24 - 8 * r = 8 * (3 - r) by omega, pow_256]; simp
          have HX2 := Lib.hid hx
          clear hx ha hr hqa
          go_wp2_with fail
          go_roundw
          case rel => exact ⟨j + 1, by omega, by go_num, hO.put hlt HX2.out (Nat.mod_lt _ (by omega))⟩
          case measure => simp [intOf]; omega
        · obtain rfl : j = 32 := by omega
          obtain ⟨ob, orr, os, oo, oz⟩ := hO
          have eR : (bytesV (outTo q 32) ++ List.replicate (32 - 32) (Value.int .u8 0)).toArray = R := by rw [HR.out]; simp
          have hl : R.size = 32 := by rw [HR.out, List.size_toArray, bytesV_length, outTo_length]
          have hone : Hid (R.all (·.oneCell') = true) := Lib.hid (by rw [HR.out]; exact all_oneCell_toArray (bytesV_one _))
          rw [eR] at oo
          have F1 : Hid ((Tryd.prog.info? 88).map (·.size) = some R.size) := Lib.hid (by rw [hl]; exact info82)
          have F2 : Hid (Z.size = R.size) := Lib.hid (by rw [hl, HZ.out])
          clear eR hl
          go_wp2_with (first
            | (with_reducible refine wpList_load_row rfl 88 _ rfl B rfl 88 R (0, 0) _ oo.heap_ Tryd.underlying88 rfl F1.out ?_)
            | (with_reducible refine wpList_store_row rfl 88 _ _ rfl w.heap.size R rfl rfl 88 Z orr.heap_ F1.out F2.out hone.out ?_))
          refine ret_row (g := w.heap.size) (cs := R) (t := 88) Tryd.results57 ?_ (orr.row R) rfl Tryd.underlying88 F1.out ?_ ?_
          · rfl
          · rfl
          · exact ⟨rfl, below_setRow ob (by omega) R⟩
end Go.Proofs.YtnionejefpnfoaaDoor
/- The reference's Int, Bytes and Ints. Conditions: the ranges that the theorems state. -/
namespace Go.Proofs.YtnionejefpnfoaaDoor
open Go.RowKit

set_option maxRecDepth 100000 in
set_option maxHeartbeats 2000000 in
theorem rInt_neg (n : Int) (w : World) (h1 : -9223372036854775808 ≤ n) (hneg : n < 0) :
    Calls Tryd.prog 55 #[.int .i64 n] w fun e W' => ∃ v, e = .returned v ∧ W'.ownsRow w.heap.size 5 1 v (encInt n).length (bytesV (encInt n)) ∧ Below w.heap.size w W' := by
  obtain ⟨i0, hi, hz0, hz1, hz2⟩ := info_parts info_u8
  have hmg := mag_lt h1 (by omega)
  have hx : -1 - n = (mag n : Int) := (mag_neg hneg).symm
  go_enter Tryd.func55, Tryd.ntmps55
  go_wp2
  go_loopw [3, 4] (fun t v wr => ∃ i q : Nat, i ≤ 8 ∧ t = .int .i64 (q : Int) ∧ Hid (q = (mag n) / 256 ^ i) ∧ (q : Int) ≤ 9223372036854775807 ∧ (0 < i → 256 ^ (i - 1) ≤ (mag n)) ∧ wr.ownsRow w.heap.size 5 1 v i (bytesV (lowTo (mag n) i)) ∧ Below w.heap.size w wr)
    (fun t _ _ => (intOf t).toNat)
  case atStart => exact ⟨0, (mag n), by omega, rfl, by simp [Hid], by omega, by omega, World.ownsRow_nil _ _ _ _, Below.refl _ _⟩
  case round =>
    obtain ⟨i, q, hi8, rfl, HQ, hq, hlo, hown, hnx⟩ := hrel
    have HLO := Lib.hid hlo
    clear hlo
    by_cases hq0 : 0 < (q : Int)
    · have hb := low_byte HQ.out
      have hi7 := low_i hmg HQ.out (by omega)
      have hs := lowTo_succ (mag n) i
      have HS := Lib.hid hs
      clear hs
      go_wp2_with (at_builtin; refine wpList_append_own _ rfl _ _ 48 rfl w.heap.size 5 i0 (.int .u8 0) 1 1 Tryd.underlying48 hi hz0 hz1 hz2 rfl (by decide) _ _ _ rfl (hown.alloc _) ⟨wr.heap.size, 0, none⟩ 1 1 [.int .u8 ((byt ((mag n) / 256 ^ i % 256)).toNat : Int)] rfl rfl (cell_one_new _ _ _) (by simp [Value.oneCell']) (by unfold maxLen; omega) (by omega) (by first | (simp; done) | (have := hnx.size; simp; omega)) ?_; intro v' w1 hown' hgrow _)
      clear hb
      go_wp2
      go_roundw
      case rel => exact ⟨i + 1, q / 256, by omega, by go_num, by rw [HQ.out, Nat.pow_succ, Nat.div_div_eq_div_mul]; rfl, by omega, fun _ => low_le HQ.out (by omega), by rw [HS.out, bytesV_append]; exact hown', (hnx.alloc hnx.size _).grown hgrow (by have := hnx.size; simp; omega) (fun b e => (hown.lt b e).1)⟩
      case measure => simp [intOf]; omega
    · have hJ : nd (mag n) = i := nd_of hmg (low_end HQ.out (by omega)) HLO.out
      have HJ := Lib.hid hJ
      obtain ⟨A, c, rfl, hr⟩ := own_reads1 hown
      have hh : (127 : Int) - i = ((byt (headB n i)).toNat : Int) := by
        rw [byt_toNat (headB_lt _ hi8)]; unfold headB; rw [if_pos hneg]; omega
      clear hJ hown
      obtain ⟨wm, rfl⟩ : ∃ wm : World, wm = wr := ⟨_, rfl⟩
      go_wp2_with (at_builtin; refine wpList_append_own _ rfl _ _ 48 rfl wm.heap.size 5 i0 (.int .u8 0) 1 1 Tryd.underlying48 hi hz0 hz1 hz2 rfl (by decide) _ _ _ rfl ((World.ownsRow_nil wm wm.heap.size 5 1).alloc _) ⟨wm.heap.size, 0, none⟩ 1 1 [.int .u8 ((byt (headB n i)).toNat : Int)] rfl rfl (cell_one_new _ _ _) (by simp [Value.oneCell']) (by unfold maxLen; omega) (by omega) (by first | (simp; done) | (have := hnx.size; simp; omega)) ?_; intro v' w1 hown' hgrow _)
      have hg0 : Below wm.heap.size wm w1 := ((Below.refl _ wm).alloc (Nat.le_refl _) _).grown hgrow (by simp) (fun k e => absurd (show (none : Option Nat) = some k from e) (by simp))
      clear hgrow hh
      go_wp2
      go_loopw [6, 7, 8] (fun v t _ wr => ∃ r : Nat, r ≤ i ∧ t = .int .i64 ((i : Int) - 1 - r) ∧ wr.ownsRow wm.heap.size 5 1 v (r + 1) (bytesV (byt (headB n i) :: digsTo n i r)) ∧ Below wm.heap.size wm wr)
        (fun _ t _ _ => (intOf t + 1).toNat)
      case atStart => exact ⟨0, by omega, by go_num, by simpa [digsTo, bytesV] using hown', hg0⟩
      case round =>
        clear hown' hg0
        obtain ⟨r, hri, rfl, hown, hny⟩ := hrel
        by_cases hrj : r < i
        · have g1 : 0 ≤ (i : Int) - 1 - r := by omega
          have g2 : (i : Int) - 1 - r < (i : Int) := by omega
          obtain ⟨ad, rfl, -, -, hc⟩ := (hr.below hny).byte_at (k := i - 1 - r) (by omega)
          rw [lowTo_get (mag n) i (i - 1 - r) (by omega)] at hc
          have hl := dig_lt (mag n) i r
          have hs := digsTo_succ n i r
          have HS := Lib.hid hs
          clear hs
          have hd : (255 : Int) - ((byt ((mag n) / 256 ^ (i - 1 - r) % 256)).toNat : Int) = ((byt (flp n (dig (mag n) i r))).toNat : Int) := flp_neg hneg i r
          have hb := byt_bound (mag n / 256 ^ (i - 1 - r) % 256)
          skip
          go_wp2_with (at_builtin; refine wpList_append_own _ rfl _ _ 48 rfl wm.heap.size 5 i0 (.int .u8 0) 1 1 Tryd.underlying48 hi hz0 hz1 hz2 rfl (by decide) _ _ _ rfl (hown.alloc _) ⟨wr.heap.size, 0, none⟩ 1 1 [.int .u8 ((byt (flp n (dig (mag n) i r))).toNat : Int)] rfl rfl (cell_one_new _ _ _) (by simp [Value.oneCell']) (by unfold maxLen; omega) (by omega) (by first | (simp; done) | (have := hny.size; simp; omega)) ?_; intro v' w1 hown' hgrow _)
          clear hd
          go_wp2
          go_roundw
          case rel => exact ⟨r + 1, by omega, by go_num, by rw [HS.out, ← List.cons_append, bytesV_append]; exact hown', (hny.alloc hny.size _).grown hgrow (by have := hny.size; simp; omega) (fun b e => (hown.lt b e).1)⟩
          case measure => simp [intOf]; omega
        · have hrq : r = i := by omega
          clear hrj
          subst hrq
          go_wp2
          go_ret
          exact ⟨_, rfl, own_le (by rw [encInt_length, encInt, HJ.out]; exact hown) hnx.size, hnx.trans (hny.mono hnx.size)⟩

set_option maxRecDepth 100000 in
set_option maxHeartbeats 2000000 in
theorem rInt_pos (N : Nat) (w : World) (h2 : (N : Int) ≤ 9223372036854775807) :
    Calls Tryd.prog 55 #[.int .i64 (N : Int)] w fun e W' => ∃ v, e = .returned v ∧ W'.ownsRow w.heap.size 5 1 v (encInt (N : Int)).length (bytesV (encInt (N : Int))) ∧ Below w.heap.size w W' := by
  obtain ⟨i0, hi, hz0, hz1, hz2⟩ := info_parts info_u8
  have hmg : N < 9223372036854775808 := by omega
  go_enter Tryd.func55, Tryd.ntmps55
  go_wp2
  go_loopw [3, 4] (fun t v wr => ∃ i q : Nat, i ≤ 8 ∧ t = .int .i64 (q : Int) ∧ Hid (q = N / 256 ^ i) ∧ (q : Int) ≤ 9223372036854775807 ∧ (0 < i → 256 ^ (i - 1) ≤ N) ∧ wr.ownsRow w.heap.size 5 1 v i (bytesV (lowTo N i)) ∧ Below w.heap.size w wr)
    (fun t _ _ => (intOf t).toNat)
  case atStart => exact ⟨0, N, by omega, rfl, by simp [Hid], by omega, by omega, World.ownsRow_nil _ _ _ _, Below.refl _ _⟩
  case round =>
    obtain ⟨i, q, hi8, rfl, HQ, hq, hlo, hown, hnx⟩ := hrel
    have HLO := Lib.hid hlo
    clear hlo
    by_cases hq0 : 0 < (q : Int)
    · have hb := low_byte HQ.out
      have hi7 := low_i hmg HQ.out (by omega)
      have hs := lowTo_succ N i
      have HS := Lib.hid hs
      clear hs
      go_wp2_with (at_builtin; refine wpList_append_own _ rfl _ _ 48 rfl w.heap.size 5 i0 (.int .u8 0) 1 1 Tryd.underlying48 hi hz0 hz1 hz2 rfl (by decide) _ _ _ rfl (hown.alloc _) ⟨wr.heap.size, 0, none⟩ 1 1 [.int .u8 ((byt (N / 256 ^ i % 256)).toNat : Int)] rfl rfl (cell_one_new _ _ _) (by simp [Value.oneCell']) (by unfold maxLen; omega) (by omega) (by first | (simp; done) | (have := hnx.size; simp; omega)) ?_; intro v' w1 hown' hgrow _)
      clear hb
      go_wp2
      go_roundw
      case rel => exact ⟨i + 1, q / 256, by omega, by go_num, by rw [HQ.out, Nat.pow_succ, Nat.div_div_eq_div_mul]; rfl, by omega, fun _ => low_le HQ.out (by omega), by rw [HS.out, bytesV_append]; exact hown', (hnx.alloc hnx.size _).grown hgrow (by have := hnx.size; simp; omega) (fun b e => (hown.lt b e).1)⟩
      case measure => simp [intOf]; omega
    · have hJ : nd (mag (N : Int)) = i := nd_nat hmg (low_end HQ.out (by omega)) HLO.out
      have HJ := Lib.hid hJ
      obtain ⟨A, c, rfl, hr⟩ := own_reads1 hown
      have hh : (128 : Int) + i = ((byt (headB (N : Int) i)).toNat : Int) := by
        rw [byt_toNat (headB_lt _ hi8)]; unfold headB; rw [if_neg (by omega)]; omega
      clear hJ hown
      obtain ⟨wm, rfl⟩ : ∃ wm : World, wm = wr := ⟨_, rfl⟩
      go_wp2_with (at_builtin; refine wpList_append_own _ rfl _ _ 48 rfl wm.heap.size 5 i0 (.int .u8 0) 1 1 Tryd.underlying48 hi hz0 hz1 hz2 rfl (by decide) _ _ _ rfl ((World.ownsRow_nil wm wm.heap.size 5 1).alloc _) ⟨wm.heap.size, 0, none⟩ 1 1 [.int .u8 ((byt (headB (N : Int) i)).toNat : Int)] rfl rfl (cell_one_new _ _ _) (by simp [Value.oneCell']) (by unfold maxLen; omega) (by omega) (by first | (simp; done) | (have := hnx.size; simp; omega)) ?_; intro v' w1 hown' hgrow _)
      have hg0 : Below wm.heap.size wm w1 := ((Below.refl _ wm).alloc (Nat.le_refl _) _).grown hgrow (by simp) (fun k e => absurd (show (none : Option Nat) = some k from e) (by simp))
      clear hgrow hh
      go_wp2
      go_loopw [6, 7, 8] (fun v t _ wr => ∃ r : Nat, r ≤ i ∧ t = .int .i64 ((i : Int) - 1 - r) ∧ wr.ownsRow wm.heap.size 5 1 v (r + 1) (bytesV (byt (headB (N : Int) i) :: digsTo (N : Int) i r)) ∧ Below wm.heap.size wm wr)
        (fun _ t _ _ => (intOf t + 1).toNat)
      case atStart => exact ⟨0, by omega, by go_num, by simpa [digsTo, bytesV] using hown', hg0⟩
      case round =>
        clear hown' hg0
        obtain ⟨r, hri, rfl, hown, hny⟩ := hrel
        by_cases hrj : r < i
        · have g1 : 0 ≤ (i : Int) - 1 - r := by omega
          have g2 : (i : Int) - 1 - r < (i : Int) := by omega
          obtain ⟨ad, rfl, -, -, hc⟩ := (hr.below hny).byte_at (k := i - 1 - r) (by omega)
          rw [lowTo_get N i (i - 1 - r) (by omega)] at hc
          have hl := dig_lt N i r
          have hs := digsTo_succ (N : Int) i r
          have HS := Lib.hid hs
          clear hs
          have hd : 0 + ((byt (N / 256 ^ (i - 1 - r) % 256)).toNat : Int) = ((byt (flp (N : Int) (dig (mag (N : Int)) i r))).toNat : Int) := flp_pos N i r
          rw [Int.zero_add] at hd
          rw [hd] at hc; clear hd
          go_wp2_with (at_builtin; refine wpList_append_own _ rfl _ _ 48 rfl wm.heap.size 5 i0 (.int .u8 0) 1 1 Tryd.underlying48 hi hz0 hz1 hz2 rfl (by decide) _ _ _ rfl (hown.alloc _) ⟨wr.heap.size, 0, none⟩ 1 1 [.int .u8 ((byt (flp (N : Int) (dig (mag (N : Int)) i r))).toNat : Int)] rfl rfl (cell_one_new _ _ _) (by simp [Value.oneCell']) (by unfold maxLen; omega) (by omega) (by first | (simp; done) | (have := hny.size; simp; omega)) ?_; intro v' w1 hown' hgrow _)
          skip
          go_wp2
          go_roundw
          case rel => exact ⟨r + 1, by omega, by go_num, by rw [HS.out, ← List.cons_append, bytesV_append]; exact hown', (hny.alloc hny.size _).grown hgrow (by have := hny.size; simp; omega) (fun b e => (hown.lt b e).1)⟩
          case measure => simp [intOf]; omega
        · have hrq : r = i := by omega
          clear hrj
          subst hrq
          go_wp2
          go_ret
          exact ⟨_, rfl, own_le (by rw [encInt_length, encInt, HJ.out]; exact hown) hnx.size, hnx.trans (hny.mono hnx.size)⟩

theorem rInt_any (n : Int) (w : World) (h1 : -9223372036854775808 ≤ n) (h2 : n ≤ 9223372036854775807) :
    Calls Tryd.prog 55 #[.int .i64 n] w fun e W' => ∃ v, e = .returned v ∧ W'.ownsRow w.heap.size 5 1 v (encInt n).length (bytesV (encInt n)) ∧ Below w.heap.size w W' := by
  by_cases h : n < 0
  · exact rInt_neg n w h1 h
  · obtain ⟨N, rfl⟩ := Int.eq_ofNat_of_zero_le (show 0 ≤ n by omega)
    exact rInt_pos N w h2
set_option maxRecDepth 100000 in
set_option maxHeartbeats 1000000 in
theorem rBytes_any (s : ByteArray) (w : World) (hs : s.size ≤ 1000000000) :
    Calls Tryd.prog 58 #[.string s] w fun e W' => ∃ v, e = .returned v ∧ W'.ownsRow w.heap.size 5 1 v (encBytes s.data.toList).length (bytesV (encBytes s.data.toList)) ∧ Below w.heap.size w W' := by
  obtain ⟨i0, hi, hz0, hz1, hz2⟩ := info_parts info_u8
  have hle := encInt_le (s.size : Int) (I64.nat hs)
  have hfin : (encBytes s.data.toList) = encInt (s.size : Int) ++ s.data.toList := by unfold encBytes; rw [size_list]
  have HF := Lib.hid hfin
  clear hfin
  have hcv := fun W => run_bytes_of_string (P := Tryd.prog) W 9 48 5 s Tryd.underlying9 Tryd.underlying48 Tryd.underlying5
  have HCV := Lib.hid hcv
  clear hcv
  go_enter Tryd.func58, Tryd.ntmps58
  go_wp2_with fail
  refine (rInt_any s.size w (by omega) (by omega)).mono ?_
  rintro e w1 ⟨v, rfl, hown, hb⟩
  have hcv := HCV.out w1
  go_wp2_with (at_builtin; refine wpList_append_own _ rfl _ _ 48 rfl w.heap.size 5 i0 (.int .u8 0) 1 1 Tryd.underlying48 hi hz0 hz1 hz2 rfl (by decide) _ _ _ rfl ((hown.alloc _).drew) ⟨w1.heap.size, 0, none⟩ s.size _ (bytesV s.data.toList) rfl (by rw [bytesV_length, size_list, Nat.mul_one]) (conv_cells w1 s _ _ _) (bytesV_one _) (by unfold maxLen; omega) (by omega) (by have := hb.size; simp; omega) ?_; intro v' w2 hown' hgrow _)
  go_ret
  refine ⟨_, rfl, ?_, (hb.alloc hb.size _).drew.grown hgrow (by have := hb.size; simp; omega) (fun b e => (hown.lt b e).1)⟩
  rw [HF.out, List.length_append, size_list, bytesV_append]
  exact hown'
set_option maxRecDepth 100000 in
set_option maxHeartbeats 1000000 in
theorem rInts_any (A : Option Addr) (n c : Nat) (l : List Int) (w : World) (hl : Reads w w.heap.size 1 A n (ints l)) (hI : ∀ x ∈ l, I64 x) (hn : n ≤ 1000000) :
    Calls Tryd.prog 47 #[.slice A n c] w fun e W' => ∃ v, e = .returned v ∧ W'.ownsRow w.heap.size 5 1 v (encInts l).length (bytesV (encInts l)) ∧ Below w.heap.size w W' := by
  obtain ⟨i0, hi, hz0, hz1, hz2⟩ := info_parts info_u8
  have el := hl.int_len
  subst el
  have hlenl : l.length ≤ 1000000 := by omega
  have hle := encInt_le (l.length : Int) (I64.nat (by omega))
  obtain ⟨P, hP⟩ : ∃ P : List UInt8, P = encInt (l.length : Int) := ⟨_, rfl⟩
  have HP := Lib.hid hP
  rw [← hP] at hle
  go_enter Tryd.func47, Tryd.ntmps47
  go_wp2_with fail
  refine (rInt_any l.length w (by omega) (by omega)).mono ?_
  rintro e w1 ⟨v, rfl, hown, hb⟩
  rw [← hP] at hown
  clear hP
  go_wp2_with fail
  go_loopw [3, 4] (fun v i wr => ∃ j : Nat, j ≤ l.length ∧ i = .int .i64 j ∧ wr.ownsRow w.heap.size 5 1 v (P ++ cat (l.take j)).length (bytesV (P ++ cat (l.take j))) ∧ Below w.heap.size w wr)
    (fun _ i _ => l.length - (intOf i).toNat)
  case atStart => exact ⟨0, by omega, rfl, by simpa [cat] using hown, hb⟩
  case round =>
    clear hown hb
    obtain ⟨j, hj, rfl, hown, hnx⟩ := hrel
    by_cases hlt : j < l.length
    · obtain ⟨ad, rfl, -, -, hc⟩ := (hl.below hnx).int_at hlt
      have hji : (j : Int) < (l.length : Int) := by omega
      have hx := at_mem hlt hI
      have hs := cat_take l j hlt
      have hlen : (P ++ cat (l.take j)).length ≤ 9 + 9 * j := by
        have := cat_le (l.take j) (fun x hx => hI x (List.mem_of_mem_take hx))
        rw [List.length_append]; rw [List.length_take] at this; omega
      generalize l[j]?.getD 0 = x at *
      have hxl := encInt_le _ hx
      have HS := Lib.hid hs
      clear hs
      obtain ⟨wo, rfl⟩ : ∃ wo : World, wo = wr := ⟨_, rfl⟩
      go_wp2_with fail
      refine (rInt_any x wo hx.1 hx.2).mono ?_
      rintro e w2 ⟨v2, rfl, hown2, hb2⟩
      have hown1 := own_below hown hb2
      have hrow := own_ne hown hown2
      obtain ⟨A2, c2, rfl, hr2⟩ := own_reads1 hown2
      clear hown hown2
      go_wp2_with (at_builtin; refine wpList_append_reads _ rfl _ _ 48 rfl w.heap.size 5 i0 (.int .u8 0) 1 1 Tryd.underlying48 hi hz0 hz1 hz2 rfl (by decide) _ _ _ rfl hown1 _ A2 (encInt x).length c2 (bytesV (encInt x)) rfl hr2 (bytesV_one _) (by unfold maxLen; omega) (by omega) (Nat.le_trans hnx.size hb2.size) ?_; intro v' w3 hown' hgrow)
      go_roundw
      case rel => exact ⟨j + 1, by omega, by go_num, by rw [HS.out, ← List.append_assoc, List.length_append, bytesV_append]; exact hown', (hnx.trans (hb2.mono hnx.size)).grown hgrow (Nat.le_trans hnx.size hb2.size) (fun b e => (hown1.lt b e).1)⟩
      case measure => simp [intOf]; omega
    · obtain rfl : j = l.length := by omega
      go_wp2
      go_ret
      refine ⟨_, rfl, ?_, hnx⟩
      have e : encInts l = P ++ cat (l.take l.length) := by rw [List.take_length, HP.out]; rfl
      rw [e]; exact hown
end Go.Proofs.YtnionejefpnfoaaDoor
/- The reference's SHA-256: Short, Input, Of. Conditions: its round constants lie in their variable; the parts are short. -/
namespace Go.Proofs.YtnionejefpnfoaaDoor
open Go.RowKit

set_option maxRecDepth 100000 in
set_option maxHeartbeats 4000000 in
theorem rInput_any (d : Int) (A : Option Addr) (n c : Nat) (l : List ByteArray) (w : World) (hl : Reads w w.heap.size 1 A n (strs l)) (hs : sizes l ≤ 50000) (hd1 : 0 ≤ d) (hd2 : d ≤ 255) :
    Calls Tryd.prog 54 #[.int .i64 d, .slice A n c] w fun e W' => ∃ v, e = .returned v ∧ W'.ownsRow w.heap.size 5 1 v (ofM d l).length (bytesV (ofM d l)) ∧ Below w.heap.size w W' := by
  obtain ⟨i0, hi, hz0, hz1, hz2⟩ := info_parts info_u8
  have el := hl.str_len
  subst el
  have hll : (l.length : Int) ≤ 1000000 := by have := sizes_len l; omega
  have hd3 : IntKind.u8.wrap d = d := by simp [IntKind.wrap, IntKind.signed, IntKind.bits]; omega
  go_enter Tryd.func54, Tryd.ntmps54
  go_wp2_with fail
  have o0 : (w.alloc (.cells #[.int .u8 d] 5)).ownsRow w.heap.size 5 1 (.slice (some ⟨w.heap.size, 0, none⟩) 1 1) (ofM d (l.take 0)).length (bytesV (ofM d (l.take 0))) := by
    have := own_new w 5 #[.int .u8 d] w.heap.size (Nat.le_refl _) (by unfold maxLen; simp)
    have e : bytesV (ofM d (l.take 0)) = [.int .u8 d] := by
      rw [List.take_zero, ofM, show catS [] = [] from rfl, bytesV_cons, byt_toNat (by omega)]
      show [Value.int .u8 (((d % 256).toNat : Nat) : Int)] = _
      rw [show (((d % 256).toNat : Nat) : Int) = d by omega]
    rw [e]
    exact this
  go_loopw [5, 6] (fun v i wr => ∃ j : Nat, j ≤ l.length ∧ i = .int .i64 (j : Int) ∧ wr.ownsRow w.heap.size 5 1 v (ofM d (l.take j)).length (bytesV (ofM d (l.take j))) ∧ Below w.heap.size w wr) (fun _ i _ => (l.length - intOf i).toNat)
  case atStart => exact ⟨0, by omega, rfl, o0, (Below.refl _ w).alloc (Nat.le_refl _) _⟩
  case round =>
    clear o0
    obtain ⟨j, hj, rfl, ho, hb⟩ := hrel
    by_cases hlt : j < l.length
    · obtain ⟨ad, rfl, -, -, hc⟩ := (hl.below hb).str_at hlt
      have hji : (j : Int) < (l.length : Int) := by omega
      have hx := size_at hlt (Nat.le_trans hs (by omega : 50000 ≤ 1000000))
      have hct := catS_take l j hlt
      have hml : (ofM d (l.take j)).length ≤ 10000000 := by
        have h1 := catS_le (l.take j) (Nat.le_trans (sizes_take l j) (Nat.le_trans hs (by omega : 50000 ≤ 1000000)))
        have h2 := sizes_take l j
        unfold ofM
        rw [List.length_cons]
        omega
      have hxs : sizes l ≤ 50000 := hs
      have hof : ofM d (l.take (j + 1)) = ofM d (l.take j) ++ encBytes (l[j]?.getD ByteArray.empty).data.toList := by unfold ofM; rw [hct]; rfl
      have hel := encBytes_le (l[j]?.getD ByteArray.empty) (by omega)
      generalize l[j]?.getD ByteArray.empty = x at *
      have HOF := Lib.hid hof
      have HML := Lib.hid hml
      have HEL := Lib.hid hel
      clear hct hof hml hel
      go_wp2_with fail
      refine (rBytes_any x wr (by omega)).mono ?_
      rintro E w2 ⟨v2, rfl, o2, b2⟩
      obtain ⟨A2, c2, rfl, hc2, -, -⟩ := own_slice o2
      have r2 := Reads.of_own o2
      have o1 := own_thru0 ho b2
      have hb2 := hb.trans (b2.mono hb.size)
      clear o2
      go_wp2_with (at_builtin; refine wpList_append_reads _ rfl _ _ 48 rfl w.heap.size 5 i0 (.int .u8 0) 1 1 Tryd.underlying48 hi hz0 hz1 hz2 rfl (by decide) _ _ _ rfl o1 _ A2 _ c2 _ rfl r2 (bytesV_one _) (by have := HML.out; have := HEL.out; unfold maxLen; omega) (by have := HML.out; have := HEL.out; omega) hb2.size ?_; intro v3 w3 o3 g3)
      have hb3 : Below w.heap.size w w3 := hb2.grown g3 hb2.size (fun k e => (o1.lt k e).1)
      rw [← bytesV_append, ← List.length_append, ← HOF.out] at o3
      go_roundw
      case rel => exact ⟨j + 1, by omega, by go_num, o3, hb3⟩
      case measure => simp [intOf]; omega
    · obtain rfl : j = l.length := by omega
      rw [List.take_length] at ho
      go_wp2_with fail
      go_ret
      exact ⟨_, rfl, ho, hb⟩

/-- the bytes of a hash, j of them written -/
def shortV (H : List UInt8) (j : Nat) : Array Value := (bytesV (H.take j) ++ List.replicate (16 - j) (Value.int .u8 0)).toArray
theorem shortV_at {H : List UInt8} {j : Nat} (hj : j < 16) (hH : H.length = 32) : (shortV H j)[j]? = some (.int .u8 0) := by
  unfold shortV
  rw [List.getElem?_toArray, List.getElem?_append_right (by rw [bytesV_length, List.length_take]; omega), bytesV_length, List.length_take]
  rw [List.getElem?_replicate, if_pos (by omega)]
theorem shortV_set {H : List UInt8} {j : Nat} (hj : j < 16) (hH : H.length = 32) : (shortV H j).setIfInBounds j (.int .u8 (((H[j]?.getD 0).toNat : Nat) : Int)) = shortV H (j + 1) := by
  unfold shortV
  have hl : (bytesV (H.take j)).length = j := by rw [bytesV_length, List.length_take]; omega
  have e : H.take (j + 1) = H.take j ++ [H[j]?.getD 0] := by rw [List.take_add_one, List.getElem?_eq_getElem (by omega)]; rfl
  rw [List.setIfInBounds_toArray, e, bytesV_append, List.set_append_right _ _ (by omega), hl, Nat.sub_self, show 16 - j = (16 - (j + 1)) + 1 by omega, List.replicate_succ, List.set_cons_zero, List.append_assoc]
  rfl
/-- what holds while the first 16 bytes are copied -/
structure RShort (w : World) (gS : Nat) (H : List UInt8) (S : Array Value) (j : Nat) (wr : World) : Prop where
  b : Below w.heap.size w wr
  r : Blk wr w.heap.size 74 Z16
  s : Blk wr gS 88 S
  o : Blk wr (gS + 1) 74 (shortV H j)
  z : w.heap.size < gS
theorem RShort.put {w wr : World} {gS j : Nat} {H : List UInt8} {S : Array Value} (h : RShort w gS H S j wr) (hj : j < 16) (hH : H.length = 32) :
    RShort w gS H S (j + 1) (wr.setCell ⟨gS + 1, j, none⟩ (.int .u8 (((H[j]?.getD 0).toNat : Nat) : Int))) := by
  have hz := h.z
  refine ⟨h.b.setCell (by simp; omega) _, h.r.far (by simp; omega) _, h.s.far (by simp) _, ?_, hz⟩
  rw [← shortV_set hj hH]
  exact h.o.set_ j _
set_option maxRecDepth 100000 in
set_option maxHeartbeats 4000000 in
theorem rShort_any (A : Option Addr) (n c : Nat) (m : List UInt8) (w : World) (hl : Reads w w.heap.size 1 A n (bytesV m)) (hn : n ≤ 1000000) (hnc : n ≤ c) (hK : RConsts w) (h1 : 1 < w.heap.size) :
    Calls Tryd.prog 53 #[.slice A n c] w fun e W' => e = .returned (.agg (bytesV ((sha m).take 16)).toArray) ∧ Below w.heap.size w W' := by
  have hH : (sha m).length = 32 := outTo_length _ 32
  have hsum := fun W (hb : Below w.heap.size w W) => rSum_any A n c m W ((hl.below hb).more hb.size) hn hnc (hK.below (hb.mono (by omega))) (Nat.lt_of_lt_of_le h1 hb.size)
  generalize sha m = H at *
  obtain ⟨R, hR⟩ : ∃ R, R = (bytesV (H.take 16)).toArray := ⟨_, rfl⟩
  rw [← hR]
  have hR2 : shortV H 16 = R := by rw [hR]; unfold shortV; simp
  obtain ⟨S, hS⟩ : ∃ S, S = (bytesV H).toArray := ⟨_, rfl⟩
  rw [← hS] at hsum
  have F0 : Hid (S.size = 32) := Lib.hid (by rw [hS, List.size_toArray, bytesV_length, hH])
  have F1 : Hid ((Tryd.prog.info? 88).map (·.size) = some S.size) := Lib.hid (by rw [F0.out]; exact info82)
  have F2 : Hid (S.all (·.oneCell') = true) := Lib.hid (by rw [hS]; exact all_oneCell_toArray (bytesV_one _))
  have F4 : Hid (R.size = 16) := Lib.hid (by rw [hR, List.size_toArray, bytesV_length, List.length_take, hH]; rfl)
  have F5 : Hid (R.all (·.oneCell') = true) := Lib.hid (by rw [hR]; exact all_oneCell_toArray (bytesV_one _))
  have G1 : Hid ((Tryd.prog.info? 74).map (·.size) = some R.size) := Lib.hid (by rw [F4.out]; exact info43)
  have G2 : Hid (Z16.size = R.size) := Lib.hid (by rw [F4.out]; rfl)
  have HS := Lib.hid hS
  have HR2 := Lib.hid hR2
  have HSUM := Lib.hid hsum
  clear hS hR hR2 hsum hl
  go_enter Tryd.func53, Tryd.ntmps53
  go_wp2_with fail
  refine (HSUM.out _ ((Below.refl _ w).alloc (Nat.le_refl _) _)).mono ?_
  rintro E w1 ⟨rfl, b1⟩
  go_wp2_with (first
    | ((with_reducible refine wpList_store_row rfl 88 _ _ rfl w1.heap.size S rfl rfl 88 _ (heap_alloc_new w1 _) F1.out ?_ F2.out ?_); (focus (rw [F0.out]; rfl))))
  refine wp_world fun wb hwb => ?_
  have I0 : RShort w w1.heap.size H S 0 wb := by
    rw [hwb]
    have ok1 : Below w.heap.size w w1 := ((Below.refl _ w).alloc (Nat.le_refl _) _).trans (b1.mono (by rw [World.size_alloc]; omega))
    have hlt : w.heap.size < w1.heap.size := by have := b1.size; rw [World.size_alloc] at this; omega
    have hz : Blk w1 w.heap.size 74 Z16 := (Blk.new w 74 Z16).thru b1
    refine ⟨?_, ?_, ?_, ?_, hlt⟩
    · exact (below_setRow (ok1.alloc ok1.size _) ok1.size S).alloc (by rw [setRow_size, World.size_alloc]; omega) _
    · exact (((hz.alloc _).rowFar (by omega) S).alloc _)
    · exact ((Blk.new w1 88 _).row S).alloc _
    · exact Blk.new' (by rw [setRow_size, World.size_alloc])
  clear hwb b1
  generalize w1.heap.size = gS at *
  go_loopw [5] (fun i wr => ∃ j : Nat, j ≤ 16 ∧ i = .int .i64 (j : Int) ∧ RShort w gS H S j wr) (fun i _ => (16 - intOf i).toNat)
  case atStart => exact ⟨0, by omega, rfl, I0⟩
  case round =>
    clear I0
    obtain ⟨j, hj, rfl, hI⟩ := hrel
    by_cases hlt : j < 16
    · have hji : (j : Int) < 16 := by omega
      have hj32 : (j : Int) < 32 := by omega
      have hc : wr.cell? ⟨gS, j, none⟩ = some (.int .u8 (((H[j]?.getD 0).toNat : Nat) : Int)) := hI.s.at_ (by
        rw [HS.out, List.getElem?_toArray, bytesV_get, List.getElem?_eq_getElem (by omega)]; rfl)
      have hd : wr.cell? ⟨gS + 1, j, none⟩ = some (.int .u8 0) := hI.o.at_ (shortV_at hlt hH)
      have hf := hI.o.frozen j
      have hI2 := hI.put hlt hH
      have h256 := (H[j]?.getD 0).toNat_lt
      generalize (H[j]?.getD 0).toNat = x at *
      go_wp2_with fail
      go_roundw
      case rel => exact ⟨j + 1, by omega, by go_num, hI2⟩
      case measure => simp [intOf]; omega
    · obtain rfl : j = 16 := by omega
      obtain ⟨ib, ir, is, io, iz⟩ := hI
      rw [HR2.out] at io
      go_wp2_with (first
        | (with_reducible refine wpList_load_row rfl 74 _ rfl (gS + 1) rfl 74 R (0, 0) _ io.heap_ Tryd.underlying74 rfl G1.out ?_)
        | (with_reducible refine wpList_store_row rfl 74 _ _ rfl w.heap.size R rfl rfl 74 Z16 ir.heap_ G1.out G2.out F5.out ?_))
      refine ret_row (g := w.heap.size) (cs := R) (t := 74) Tryd.results53 ?_ (ir.row R) rfl Tryd.underlying74 G1.out ?_ ?_
      · rfl
      · rfl
      · exact ⟨rfl, below_setRow ib (Nat.le_refl _) R⟩
set_option maxRecDepth 100000 in
set_option maxHeartbeats 4000000 in
theorem rOf_any (d : Int) (A : Option Addr) (n c : Nat) (l : List ByteArray) (w : World) (hl : Reads w w.heap.size 1 A n (strs l)) (hs : sizes l ≤ 50000) (hd1 : 0 ≤ d) (hd2 : d ≤ 255) (hK : RConsts w) (h1 : 1 < w.heap.size) :
    Calls Tryd.prog 46 #[.int .i64 d, .slice A n c] w fun e W' => e = .returned (.agg (bytesV (ofH d l)).toArray) ∧ Below w.heap.size w W' := by
  have hin := fun W (hb : Below w.heap.size w W) => rInput_any d A n c l W ((hl.below hb).more hb.size) hs hd1 hd2
  have hml : (ofM d l).length ≤ 1000000 := by
    have h := catS_le l (by omega)
    unfold ofM
    rw [List.length_cons]; omega
  have hH : ofH d l = (sha (ofM d l)).take 16 := rfl
  rw [hH]
  generalize ofM d l = m at *
  obtain ⟨R, hR⟩ : ∃ R, R = (bytesV ((sha m).take 16)).toArray := ⟨_, rfl⟩
  have hsh := fun A n c W h1 h2 h3 h4 h5 => rShort_any A n c m W h1 h2 h3 h4 h5
  rw [← hR] at hsh ⊢
  have hl16 : (bytesV ((sha m).take 16)).length = 16 := by rw [bytesV_length, List.length_take, show (sha m).length = 32 from outTo_length _ 32]; rfl
  have F4 : Hid (R.size = 16) := Lib.hid (by rw [hR, List.size_toArray, hl16])
  have F5 : Hid (R.all (·.oneCell') = true) := Lib.hid (by rw [hR]; exact all_oneCell_toArray (bytesV_one _))
  have G1 : Hid ((Tryd.prog.info? 74).map (·.size) = some R.size) := Lib.hid (by rw [F4.out]; exact info43)
  have G2 : Hid (Z16.size = R.size) := Lib.hid (by rw [F4.out]; rfl)
  have HSH := Lib.hid hsh
  have HIN := Lib.hid hin
  clear hR hsh hin hl16 hl
  go_enter Tryd.func46, Tryd.ntmps46
  go_wp2_with fail
  refine (HIN.out _ ((Below.refl _ w).alloc (Nat.le_refl _) _)).mono ?_
  rintro E w1 ⟨v, rfl, o1, b1⟩
  have ok1 : Below w.heap.size w w1 := ((Below.refl _ w).alloc (Nat.le_refl _) _).trans (b1.mono (by rw [World.size_alloc]; omega))
  have hz : Blk w1 w.heap.size 74 Z16 := (Blk.new w 74 Z16).thru b1
  obtain ⟨A2, c2, rfl, hc2, -, -⟩ := own_slice o1
  go_wp2_with fail
  refine (HSH.out _ _ _ w1 (Reads.of_own o1) (by omega) hc2 (hK.below (ok1.mono (by omega))) (Nat.lt_of_lt_of_le h1 ok1.size)).mono ?_
  rintro E w2 ⟨rfl, b2⟩
  have ok2 : Below w.heap.size w w2 := ok1.trans (b2.mono ok1.size)
  have hz2 := hz.thru b2
  clear o1 hz
  go_wp2_with (first
    | (with_reducible refine wpList_store_row rfl 74 _ _ rfl w.heap.size R rfl rfl 74 Z16 hz2.heap_ G1.out G2.out F5.out ?_))
  refine ret_row (g := w.heap.size) (cs := R) (t := 74) Tryd.results46 ?_ (hz2.row R) rfl Tryd.underlying74 G1.out ?_ ?_
  · rfl
  · rfl
  · exact ⟨rfl, below_setRow ok2 (Nat.le_refl _) R⟩
end Go.Proofs.YtnionejefpnfoaaDoor
/- The reference's draw of a word. Conditions: its round constants lie in their variable; the seed and the path are short. -/
namespace Go.Proofs.YtnionejefpnfoaaDoor
open Go.RowKit

set_option maxRecDepth 100000 in
set_option maxHeartbeats 4000000 in
theorem rWord_any (s : ByteArray) (A : Option Addr) (n c : Nat) (l : List Int) (t : Int) (w : World) (hl : Reads w w.heap.size 1 A n (ints l)) (hI : ∀ x ∈ l, I64 x) (ht : I64 t) (hn : n ≤ 1000) (hs : s.size ≤ 1000) (hK : RConsts w) (h1 : 1 < w.heap.size) :
    Calls Tryd.prog 43 #[.string s, .slice A n c, .int .i64 t] w fun e W' => e = .returned (.int .i64 (wordN s l t : Int)) ∧ Below w.heap.size w W' := by
  obtain ⟨i0, hi, hz0, hz1, hz2⟩ := info_parts info_i64
  have el := hl.int_len
  subst el
  go_enter Tryd.func43, Tryd.ntmps43
  go_wp2_with (first
    | (at_builtin; refine wpList_append_reads _ rfl _ _ 22 rfl w.heap.size 3 i0 (.int .i64 0) 1 8 Tryd.underlying22 hi hz0 hz1 hz2 rfl (by decide) _ _ _ rfl (own_new w 3 #[] _ (Nat.le_refl _) (by unfold maxLen; simp)) _ A l.length c (ints l) rfl (hl.alloc (Nat.le_refl _) _) (ints_one _) (by unfold maxLen; simp; omega) (by simp; omega) (by simp) ?_; intro v1 w1 o1 g1; have b1 : Below w.heap.size w w1 := ((Below.refl _ w).alloc (Nat.le_refl _) _).grown g1 (by simp) (fun k e => by have e2 : some w.heap.size = some k := e; injection e2 with e2; omega))
    | (at_builtin; refine wpList_append_own _ rfl _ _ 22 rfl w.heap.size 3 i0 (.int .i64 0) 1 8 Tryd.underlying22 hi hz0 hz1 hz2 rfl (by decide) _ _ _ rfl (o1.alloc _) ⟨w1.heap.size, 0, none⟩ 1 1 [.int .i64 t] rfl rfl (cell_one_new _ _ _) (by simp [Value.oneCell']) (by unfold maxLen; simp; omega) (by simp; omega) (by have := b1.size; simp; omega) ?_; intro v2 w2 o2' g2 _))
  have b2 : Below w.heap.size w w2 := (b1.alloc b1.size _).grown g2 (by have := b1.size; simp; omega) (fun k e => (o1.lt k e).1)
  have o2 : w2.ownsRow w.heap.size 3 1 v2 (l.length + 1) (ints l ++ [.int .i64 t]) := by simpa using o2'
  clear o2'
  obtain ⟨A2, c2, rfl, hr2⟩ := own_reads1 o2
  have e2 : ints l ++ [Value.int .i64 t] = ints (l ++ [t]) := (ints_snoc l t).symm
  have l2 : l.length + 1 = (l ++ [t]).length := by simp
  rw [e2, l2] at hr2
  rw [l2]
  obtain ⟨L2, hL2⟩ : ∃ L2, L2 = l ++ [t] := ⟨_, rfl⟩
  have hI2 : ∀ x ∈ L2, I64 x := by
    intro x hx
    rw [hL2] at hx
    rcases List.mem_append.1 hx with h | h
    · exact hI x h
    · rw [List.mem_singleton.1 h]; exact ht
  have hn2 : L2.length ≤ 1001 := by rw [hL2]; simp; omega
  rw [← hL2] at hr2 ⊢
  have HL2 := Lib.hid hL2
  clear hL2 e2 l2 o2 o1 g2
  go_wp2_with fail
  refine (rInts_any A2 L2.length c2 L2 w2 hr2 hI2 (by omega)).mono ?_
  rintro e w3 ⟨v3, rfl, o3, b3⟩
  have b4 := below_step b2 (Nat.le_refl _) b3
  have hcv := own_conv o3 (by unfold encInts; rw [List.length_append, encInt_length]; omega)
  go_wp2_with fail
  have hle : (encInts L2).length ≤ 20000 := by
    unfold encInts
    have h1 := cat_le L2 hI2
    have h2 := encInt_le (L2.length : Int) (I64.nat (by omega))
    rw [List.length_append]
    show (encInt (L2.length : Int)).length + (cat L2).length ≤ 20000
    omega
  have htx : (txt (encInts L2)).size = (encInts L2).length := by simp [txt, ByteArray.size]
  obtain ⟨H, hH⟩ : ∃ H, H = ofH 8 [s, txt (encInts L2)] := ⟨_, rfl⟩
  have hof := rOf_any 8 (some ⟨w3.heap.size, 0, none⟩) 2 2 [s, txt (encInts L2)] (w3.alloc (.cells #[.string s, .string (txt (encInts L2))] 9)) (reads_pair w3 s (txt (encInts L2))) (by rw [sizes, sizes, sizes, htx]; omega) (by omega) (by omega)
    (hK.below ((b4.alloc b4.size _).mono (by omega))) (Nat.lt_of_lt_of_le h1 (b4.alloc b4.size _).size)
  rw [← hH] at hof
  have hHl : H.length = 16 := by rw [hH, ofH, List.length_take]; rw [show (sha (ofM 8 [s, txt (encInts L2)])).length = 32 from outTo_length _ 32]; rfl
  obtain ⟨V, hV⟩ : ∃ V, V = (bytesV H).toArray := ⟨_, rfl⟩
  rw [← hV] at hof
  have G1 : Hid ((Tryd.prog.info? 74).map (·.size) = some V.size) := Lib.hid (by rw [hV, List.size_toArray, bytesV_length, hHl]; exact info43)
  have G2 : Hid (Z16.size = V.size) := Lib.hid (by rw [hV]; show 16 = (bytesV H).toArray.size; rw [List.size_toArray, bytesV_length, hHl])
  have G3 : Hid (V.all (·.oneCell') = true) := Lib.hid (by rw [hV]; exact all_oneCell_toArray (bytesV_one _))
  have HV := Lib.hid hV
  have HH := Lib.hid hH
  clear hV hH
  refine hof.mono ?_
  rintro e w5 ⟨rfl, b5⟩
  have b6 := below_step (b4.alloc b4.size _) (Nat.le_refl _) b5
  go_wp2_with (first
    | (with_reducible refine wpList_store_row rfl 74 _ _ rfl w5.heap.size V rfl rfl 74 Z16 (heap_alloc_new w5 _) G1.out G2.out G3.out ?_))
  go_loopw [9, 10] (fun v i wr => ∃ j : Nat, j ≤ 6 ∧ i = .int .i64 (j : Int) ∧ Hid (v = .int .i64 (num (H.take j) : Int)) ∧ Blk wr w5.heap.size 74 V ∧ Below w.heap.size w wr) (fun _ i _ => (6 - intOf i).toNat)
  case atStart =>
    refine ⟨0, by omega, rfl, Lib.hid rfl, ?_, ?_⟩
    · exact ((Blk.new w5 74 _).row V)
    · exact below_setRow (b6.alloc b6.size _) b6.size V
  case round =>
    clear hof hcv
    obtain ⟨j, hj, rfl, HV8, hB, bb⟩ := hrel
    obtain rfl := HV8.out
    by_cases hlt : j < 6
    · have hji : (j : Int) < 6 := by omega
      have hc : wr.cell? ⟨w5.heap.size, j, none⟩ = some (.int .u8 ((H[j]?.getD 0).toNat : Nat)) := hB.at_ (by rw [HV.out]; simp [bytesV, List.getElem?_map, List.getElem?_eq_getElem (show j < H.length by omega)])
      have hd := (H[j]?.getD 0).toNat_lt
      have hM := num_lt H j (by omega)
      have hM2 : num (H.take j) < 1099511627776 := Nat.lt_of_lt_of_le hM (Nat.pow_le_pow_right (n := 256) (by omega) (show j ≤ 5 by omega))
      have hor : (num (H.take j) : Int) * 256 + (((H[j]?.getD 0).toNat : Nat) : Int) = ((num (H.take j) * 256 + (H[j]?.getD 0).toNat : Nat) : Int) := by omega
      have hst := num_step H j (by omega)
      rw [← hst] at hor
      have hmul : (num (H.take j) : Int) * 256 ≤ 281474976710656 := by omega
      generalize (H[j]?.getD 0).toNat = d at *
      have HST := Lib.hid hst
      clear hst
      go_wp2_with fail
      go_roundw
      case rel => exact ⟨j + 1, by omega, by go_num, Lib.hid rfl, hB, bb⟩
      case measure => simp [intOf]; omega
    · obtain rfl : j = 6 := by omega
      go_wp2_with fail
      go_ret
      refine ⟨?_, bb⟩
      rw [wordN, ← HL2.out, ← HH.out]
      rfl
end Go.Proofs.YtnionejefpnfoaaDoor
