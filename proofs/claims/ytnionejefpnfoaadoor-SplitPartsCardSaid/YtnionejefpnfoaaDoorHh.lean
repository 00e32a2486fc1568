/- The walk of hash.Of. Conditions: the round constants lie in their variable; the parts are short. -/
import Derived.Test.YtnionejefpnfoaaDoorHg
namespace Go.Proofs.YtnionejefpnfoaaDoor
open Go.RowKit
attribute [local go_sem] zeroValue73
attribute [local simp] zeroCells73_ne

/-- the message that is hashed -/
def ofM (d : Int) (l : List ByteArray) : List UInt8 := byt (d % 256).toNat :: catS l
/-- THE HASH OF PARTS -/
def ofH (d : Int) (l : List ByteArray) : List UInt8 := (sha (ofM d l)).take 16

/-- the cells of a stream of message m -/
def StrOf (m : List UInt8) (Y : Array Value) : Prop := ∃ bl, IsStr m bl ∧ Y = (strm (stN m (m.length / 64)) bl m.length).toArray
theorem StrOf.size {m : List UInt8} {Y : Array Value} (h : StrOf m Y) : Y.size = 73 := by obtain ⟨bl, h1, rfl⟩ := h; rw [List.size_toArray]; exact strm_length _ _ h1.1
theorem StrOf.one {m : List UInt8} {Y : Array Value} (h : StrOf m Y) : Y.all (·.oneCell') = true := by obtain ⟨bl, h1, rfl⟩ := h; exact all_oneCell_toArray (strm_one _ _ _)
theorem StrOf.info {m : List UInt8} {Y : Array Value} (h : StrOf m Y) : (Tryd.prog.info? 84).map (·.size) = some Y.size := by rw [h.size]; exact info73
theorem StrOf.same {m m' : List UInt8} {Y Y' : Array Value} (h : StrOf m Y) (h' : StrOf m' Y') : Y.size = Y'.size := by rw [h.size, h'.size]
theorem begin_s (w : World) : Calls Tryd.prog 48 #[] w fun e W' => ∃ Y, Hid (StrOf [] Y) ∧ e = .returned (.agg Y) ∧ Below w.heap.size w W' :=
  (begin_any w).mono fun _ _ ⟨bl, h1, h2, h3⟩ => ⟨_, Lib.hid ⟨bl, h1, rfl⟩, h2, h3⟩
theorem add_s {m : List UInt8} {Y : Array Value} {t : ByteArray} {w : World} (hY : StrOf m Y) (hlen : m.length + t.size ≤ 1000000000000) (hK : Consts w) (h0 : 0 < w.heap.size) :
    Calls Tryd.prog 49 #[.agg Y, .string t] w fun e W' => ∃ Y', Hid (StrOf (m ++ t.data.toList) Y') ∧ e = .returned (.agg Y') ∧ Below w.heap.size w W' := by
  obtain ⟨bl, h1, rfl⟩ := hY
  exact (add_any m bl t w h1 hlen hK h0).mono fun _ _ ⟨bl', h1, h2, h3⟩ => ⟨_, Lib.hid ⟨bl', h1, rfl⟩, h2, h3⟩
theorem sum_s {m : List UInt8} {Y : Array Value} {w : World} (hY : StrOf m Y) (hlen : m.length ≤ 100000000000) (hK : Consts w) (h0 : 0 < w.heap.size) :
    Calls Tryd.prog 51 #[.agg Y] w fun e W' => e = .returned (.agg (bytesV (sha m)).toArray) ∧ Below w.heap.size w W' := by
  obtain ⟨bl, h1, rfl⟩ := hY
  exact sum_any m bl w h1 hlen hK h0
theorem zs {m : List UInt8} {Y : Array Value} (h : StrOf m Y) : Tryd.zeroCells84.size = Y.size := by rw [h.size]; kernel_rfl
theorem store_s {m : List UInt8} {Y Z : Array Value} {W : World} {g : Nat} (h : StrOf m Y) (hZ : Z.size = 73) (hB : Blk W g 84 Z) : (storeCells ⟨g, 0, none⟩ Y.toList).run Tryd.prog W = .ok () (W.setRow g Y) := by
  have := run_storeCells_from (P := Tryd.prog) g 84 Y.toList 0 Z W hB (by rw [Nat.zero_add, Array.length_toList, hZ, h.size]) (fun v hv => (Array.all_eq_true_iff_forall_mem.1 h.one) v (by simpa using hv))
  simpa using this
theorem load_s {W : World} {g : Nat} {Y : Array Value} (h : Blk W g 84 Y) (hs : Y.size = 73) : (loadVar 84 ⟨g, 0, none⟩).run Tryd.prog W = .ok (.agg Y) W :=
  run_loadVar_row (P := Tryd.prog) W g 84 84 Y (0, 0) _ h Tryd.underlying84 rfl (by rw [hs]; exact info73)
theorem info43 : (Tryd.prog.info? 74).map (·.size) = some 16 := by kernel_rfl
theorem rng16 (W : World) (C S : Array Value) : ((W.alloc (.cells C 88)).setRow W.heap.size S).rangeAt W.heap.size 0 (S.toList.take 16) := by
  have h : Blk ((W.alloc (.cells C 88)).setRow W.heap.size S) W.heap.size 88 S := (Blk.new W 88 C).row S
  intro j v hv
  rw [h.cell, Nat.zero_add, ← Array.getElem?_toList]
  rw [List.getElem?_take] at hv
  split at hv
  · exact hv
  · cases hv
theorem array16_at (w : World) (ad : Addr) (c : Nat) : (Instr.arrayAt 74 (.slice (some ad) 16 c)).run Tryd.prog w = .ok (.pointer (some ad)) w := by
  simp [Instr.arrayAt, Sem.run_bind, run_underlying Tryd.underlying74]
theorem z78 : Tryd.zeroCells84.size = 73 := by kernel_rfl
theorem wBytes_s (x : ByteArray) (w : World) (hs : x.size ≤ 1000000) : Calls Tryd.prog 50 #[.string x] w fun e W' => ∃ v T, Hid (T.data.toList = encBytes x.data.toList) ∧ (convert 48 9 v).run Tryd.prog W' = .ok (.string T) W' ∧ e = .returned v ∧ Below w.heap.size w W' :=
  (wBytes_any x w (by omega)).mono fun _ _ ⟨v, h1, h2, h3⟩ => ⟨v, _, Lib.hid rfl, own_conv h2 (by unfold encBytes; rw [List.length_append, encInt_length]; omega), h1, h3⟩
def Z16 : Array Value := (List.replicate 16 (Value.int .u8 0)).toArray
/-- nothing of w is changed -/
def Ok (w W : World) : Prop := Below w.heap.size w W
section
variable {w W W' : World}
theorem Ok.alloc (h : Ok w W) (o : Obj) : Ok w (W.alloc o) := Below.alloc h h.size o
theorem Ok.drew (h : Ok w W) : Ok w W.drew := Below.drew h
theorem Ok.step (h : Ok w W) (k : Below W.heap.size W W') : Ok w W' := Below.trans h (k.mono h.size)
theorem Blk.thru {g : Nat} {t : TypeId} {cs : Array Value} (h : Blk W g t cs) (k : Below W.heap.size W W') : Blk W' g t cs := h.below k h.lt
theorem Ok.consts (h : Ok w W) (hK : Consts w) (h0 : 0 < w.heap.size) : Consts W := hK.below (Below.mono h h0)
theorem Ok.pos (h : Ok w W) (h0 : 0 < w.heap.size) : 0 < W.heap.size := Nat.lt_of_lt_of_le h0 h.size
end
theorem Blk.new' {W : World} {g : Nat} {t : TypeId} {cs : Array Value} (hg : g = W.heap.size) : Blk (W.alloc (.cells cs t)) g t cs := by rw [hg]; exact Blk.new W t cs
theorem conv_one {W : World} {g : Nat} {x : Int} (h : Blk W g 5 #[.int .u8 x]) (h1 : 0 ≤ x) (h2 : x ≤ 255) (c : Nat) : (convert 48 9 (.slice (some ⟨g, 0, none⟩) 1 c)).run Tryd.prog W = .ok (.string ⟨#[byt x.toNat]⟩) W := by
  refine run_convert_bytes_back (P := Tryd.prog) W 48 9 5 ⟨g, 0, none⟩ c [byt x.toNat] Tryd.underlying48 Tryd.underlying5 Tryd.underlying9 fun j hj => ?_
  obtain rfl : j = 0 := by simp at hj; omega
  have : W.cell? ⟨g, 0, none⟩ = some (.int .u8 x) := h.at_ rfl
  show W.cell? ⟨g, 0, none⟩ = _
  rw [this]
  show _ = some (Value.int .u8 ((byt x.toNat).toNat : Int))
  rw [byt_toNat (by omega)]
  congr 2
  omega
theorem first_done {w W : World} {p : Nat} {Z Y : Array Value} {m : List UInt8} (ok : Ok w W) (hB : Blk W p 84 Z) (hk : Blk W w.heap.size 74 Z16) (hp : w.heap.size ≤ p) (hY : Hid (StrOf m Y)) :
    ∃ p', Value.pointer (some ⟨p, 0, none⟩) = .pointer (some ⟨p', 0, none⟩) ∧ Hid (w.heap.size < p') ∧ Ok w (W.setRow p Y) ∧ Blk (W.setRow p Y) w.heap.size 74 Z16 ∧ ∃ Y', Hid (StrOf m Y') ∧ Blk (W.setRow p Y) p' 84 Y' := by
  have hne : w.heap.size ≠ p := hk.ne_ hB (by decide)
  exact ⟨p, rfl, Lib.hid (by omega), below_setRow ok hp Y, hk.rowFar hne Y, Y, hY, hB.row Y⟩
/-- the cells of a block -/
def rowAt (W : World) (g : Nat) : Array Value := match W.heap[g]? with | some (.cells cs _ _) => cs | _ => #[]
theorem Blk.rowIs {W : World} {g : Nat} {t : TypeId} {Y : Array Value} (h : Blk W g t Y) : rowAt W g = Y := by unfold rowAt; rw [h.heap_]
/-- v points to a block that holds a stream -/
def PtrTo (v : Value) (W : World) : Prop := ∃ (g : Nat) (Y : Array Value), v = .pointer (some ⟨g, 0, none⟩) ∧ Blk W g 84 Y ∧ Y.size = 73
/-- its cells -/
def valAt (v : Value) (W : World) : Array Value := match v with | .pointer (some q) => rowAt W q.block | _ => #[]
theorem Blk.ptr {W : World} {g : Nat} {Y : Array Value} (h : Blk W g 84 Y) (hs : Y.size = 73) : PtrTo (.pointer (some ⟨g, 0, none⟩)) W ∧ valAt (.pointer (some ⟨g, 0, none⟩)) W = Y := ⟨⟨g, Y, rfl, h, hs⟩, h.rowIs⟩
theorem load_v {v : Value} {W : World} (h : PtrTo v W) : (Instr.loadAt 84 v).run Tryd.prog W = .ok (.agg (valAt v W)) W := by
  obtain ⟨g, Y, rfl, h1, h2⟩ := h
  simp only [Instr.loadAt, Instr.sureAddr, Sem.run_bind, Sem.run_pure, Result.andThen_ok, load_s h1 h2]
  rw [(h1.ptr h2).2]
/-- the load of a stream, shut -/
def load78 (v : Value) : Sem Value := Instr.loadAt 84 v
theorem loadAt_shut (v : Value) : Instr.loadAt 84 v = load78 v := rfl
theorem load_run {v : Value} {W : World} (h : PtrTo v W) : (load78 v).run Tryd.prog W = .ok (.agg (valAt v W)) W := load_v h
attribute [local go_sem ↓] loadAt_shut
attribute [local go_sem] load_run
set_option maxRecDepth 100000 in
set_option maxHeartbeats 8000000 in
theorem of_any (d : Int) (A : Option Addr) (n c : Nat) (l : List ByteArray) (w : World) (hl : Reads w w.heap.size 1 A n (strs l)) (hs : sizes l ≤ 1000000) (hd1 : 0 ≤ d) (hd2 : d ≤ 255) (hK : Consts w) (h0 : 0 < w.heap.size) :
    Calls Tryd.prog 44 #[.int .i64 d, .slice A n c] w fun e W' => e = .returned (.agg (bytesV (ofH d l)).toArray) ∧ Below w.heap.size w W' := by
  obtain ⟨R, hR⟩ : ∃ R, R = (bytesV (ofH d l)).toArray := ⟨_, rfl⟩
  rw [← hR]
  have HR := Lib.hid hR
  clear hR
  obtain ⟨i0, hi, hz0, hz1, hz2⟩ := info_parts info_u8
  have el := hl.str_len
  subst el
  have hll : (l.length : Int) ≤ 1000000 := by have := sizes_len l; omega
  have hd3 : IntKind.u8.wrap d = d := by simp [IntKind.wrap, IntKind.signed, IntKind.bits]; omega
  have hl1 : ([] : List UInt8).length + (⟨#[byt d.toNat]⟩ : ByteArray).size ≤ 1000000000000 := by show 0 + 1 ≤ 1000000000000; decide
  have hcv : ∀ (W : World) (g : Nat), Blk W g 5 #[.int .u8 d] → (convert 48 9 (.slice (some ⟨g, 0, none⟩) 1 1)).run Tryd.prog W = .ok (.string ⟨#[byt d.toNat]⟩) W := fun W g h => conv_one h hd1 hd2 1
  go_enter Tryd.func44, Tryd.ntmps44
  go_upto_region 1 with fail
  go_cut [5] from 9 to 14 (fun v5 wx => ∃ p, v5 = .pointer (some ⟨p, 0, none⟩) ∧ Hid (w.heap.size < p) ∧ Ok w wx ∧ Blk wx w.heap.size 74 Z16 ∧ ∃ Y, Hid (StrOf [byt d.toNat] Y) ∧ Blk wx p 84 Y)
  case first =>
    refine wp_world fun wb hwb => ?_
    have hb0 : Below w.heap.size w wb := by rw [hwb]; exact (Below.refl _ w).alloc (Nat.le_refl _) _
    have hk0 : Blk wb w.heap.size 74 Z16 := by rw [hwb]; exact Blk.new w 74 _
    clear hwb
    have ok0 : Ok w wb := hb0
    go_region_with (first
      | ((go_at_call 48); (refine (begin_s _).mono ?_); (rintro e w1 ⟨Y1, HY1, rfl, hb1⟩); (have ok1 : Ok w w1 := Ok.step (by (repeat (first | with_reducible assumption | with_reducible apply Ok.drew | with_reducible apply Ok.alloc))) hb1))
      | ((rw [hcv]); (rotate_left); (focus ((repeat (first | with_reducible assumption | (with_reducible refine Blk.new' ?_; simp; done) | with_reducible apply Blk.alloc | with_reducible apply Blk.drew | (with_reducible apply Blk.thru; rotate_left; with_reducible assumption))); done)))
      | ((go_at_call 49); (refine (add_s HY1.out ?_ ?_ ?_).mono ?_); (focus (exact hl1)); (focus (refine Ok.consts ?_ hK h0; (repeat (first | with_reducible assumption | with_reducible apply Ok.drew | with_reducible apply Ok.alloc)); done)); (focus (refine Ok.pos ?_ h0; (repeat (first | with_reducible assumption | with_reducible apply Ok.drew | with_reducible apply Ok.alloc)); done)); (rintro e w2 ⟨Y2, HY2, rfl, hb2⟩); (have ok2 : Ok w w2 := Ok.step (by (repeat (first | with_reducible assumption | with_reducible apply Ok.drew | with_reducible apply Ok.alloc))) hb2); (have hz2 := HY2.out.size))
      | ((rw [store_s HY2.out z78]); (rotate_left); (focus ((repeat (first | with_reducible assumption | (with_reducible refine Blk.new' ?_; simp; done) | with_reducible apply Blk.alloc | with_reducible apply Blk.drew | (with_reducible apply Blk.thru; rotate_left; with_reducible assumption))); done))))
    all_goals
      go_wp2_with fail
      go_meet
      case rel =>
        have s0 := Below.size ok0
        have s1 := Below.size ok1
        have s2 := Below.size ok2
        refine first_done (Z := Tryd.zeroCells84) ?_ ?_ ?_ ?_ HY2
        · (repeat (first | with_reducible assumption | with_reducible apply Ok.drew | with_reducible apply Ok.alloc))
        · (repeat (first | with_reducible assumption | (with_reducible refine Blk.new' ?_; simp; done) | with_reducible apply Blk.alloc | with_reducible apply Blk.drew | (with_reducible apply Blk.thru; rotate_left; with_reducible assumption)))
        · (repeat (first | with_reducible assumption | (with_reducible refine Blk.new' ?_; simp; done) | with_reducible apply Blk.alloc | with_reducible apply Blk.drew | (with_reducible apply Blk.thru; rotate_left; with_reducible assumption)))
        · omega
  case rest =>
    obtain ⟨p, rfl, hp, hb, hk, Y, HY, hY⟩ := hcut
    go_wp2_with fail
    clear hcv hl1
    go_loopw [17] (fun i wr => ∃ j : Nat, j ≤ l.length ∧ i = .int .i64 (j : Int) ∧ Ok w wr ∧ Blk wr w.heap.size 74 Z16 ∧ ∃ Y, Hid (StrOf (byt d.toNat :: catS (l.take j)) Y) ∧ Blk wr p 84 Y) (fun i _ => (l.length - intOf i).toNat)
    case atStart => exact ⟨0, by omega, rfl, hb, hk, Y, HY, hY⟩
    case round =>
      clear hb hk HY hY Y
      obtain ⟨j, hj, rfl, ok, hk, Y, HY, hY⟩ := hrel
      by_cases hlt : j < l.length
      · obtain ⟨ad, rfl, -, -, hc⟩ := (hl.below ok).str_at hlt
        have hji : (j : Int) < (l.length : Int) := by omega
        have hx := size_at hlt hs
        have hct := catS_take l j hlt
        generalize l[j]?.getD ByteArray.empty = x at *
        have HCT := Lib.hid hct
        clear hct
        have hYd : Blk wr.drew p 84 Y := hY
        have okd : Ok w wr.drew := ok.drew
        have hYs := HY.out.size
        have hl2 : ∀ T : ByteArray, T.data.toList = encBytes x.data.toList → (byt d.toNat :: catS (l.take j)).length + T.size ≤ 1000000000000 := by
          intro T hT
          have h1 := catS_le (l.take j) (Nat.le_trans (sizes_take l j) hs)
          have h2 := sizes_take l j
          have h3 := encBytes_le x (by omega)
          rw [← hT, size_list] at h3
          rw [List.length_cons]
          omega
        go_wp2_with fail
        have hwd := (hYd.ptr hYs).1
        have hrd := (hYd.ptr hYs).2
        go_region_with (first
          | ((go_at_call 50); (refine (wBytes_s x _ hx).mono ?_); (rintro e w1 ⟨v2, T, HT, hcv, rfl, hb1⟩); (have ok1 : Ok w w1 := Ok.step okd hb1); (have hY1 : Blk w1 p 84 Y := Blk.thru hYd hb1); (have hr1 := (hY1.ptr hYs).2); (have ht1 := (hY1.ptr hYs).1))
          | ((go_at_call 49); (refine (add_s HY.out (hl2 _ HT.out) (ok1.consts hK h0) (ok1.pos h0)).mono ?_); (rintro e w2 ⟨Y2, HY2, rfl, hb2⟩); (have ok2 : Ok w w2 := Ok.step ok1 hb2); (have hz2 := HY2.out.size); (have hY2 : Blk w2 p 84 Y := Blk.thru hY1 hb2))
          | ((rw [store_s HY2.out hYs hY2])))
        all_goals
          go_wp2_with fail
          go_roundw
          case rel => exact ⟨j + 1, by omega, by go_num, below_setRow ok2 (Nat.le_of_lt hp.out) Y2, ((hk.drew.thru hb1).thru hb2).rowFar (Nat.ne_of_lt hp.out) Y2, Y2, Lib.hid (by rw [HCT.out, ← List.cons_append, ← HT.out]; exact HY2.out), hY2.row Y2⟩
          case measure => simp [intOf]; omega
      · obtain rfl : j = l.length := by omega
        have eM : byt d.toNat :: catS (l.take l.length) = ofM d l := by rw [List.take_length, ofM, show d % 256 = d by omega]
        rw [eM] at HY
        have hml : (ofM d l).length ≤ 100000000000 := by
          have h1 := catS_le l hs
          unfold ofM
          rw [List.length_cons]; omega
        obtain ⟨S, hS⟩ : ∃ S, S = (bytesV (sha (ofM d l))).toArray := ⟨_, rfl⟩
        have hsum := sum_s HY.out hml (ok.consts hK h0) (ok.pos h0)
        rw [← hS] at hsum
        have hlen : (bytesV (sha (ofM d l))).length = 32 := by rw [bytesV_length]; exact outTo_length _ 32
        have F0 : Hid (S.size = 32) := Lib.hid (by rw [hS, List.size_toArray, hlen])
        have F1 : Hid ((Tryd.prog.info? 88).map (·.size) = some S.size) := Lib.hid (by rw [F0.out]; exact info82)
        have F2 : Hid (S.all (·.oneCell') = true) := Lib.hid (by rw [hS]; exact all_oneCell_toArray (bytesV_one _))
        have F3 : Hid (S.toList.take 16 = R.toList) := Lib.hid (by rw [hS, HR.out]; simp [ofH, bytesV, List.map_take])
        have F4 : Hid (R.size = 16) := Lib.hid (by rw [← Array.length_toList, ← F3.out, List.length_take, Array.length_toList, F0.out]; rfl)
        have F5 : Hid (R.all (·.oneCell') = true) := Lib.hid (by rw [HR.out]; exact all_oneCell_toArray (bytesV_one _))
        have hYw := (hY.ptr HY.out.size).1
        have hYv := (hY.ptr HY.out.size).2
        clear hS hlen eM
        go_wp2_with fail
        refine hsum.mono ?_
        rintro e w1 ⟨rfl, hb1⟩
        have ok1 : Ok w w1 := Ok.step ok hb1
        have hk1 := hk.thru hb1
        have hp0 : Hid (w.heap.size < wr.heap.size) := Lib.hid (Nat.lt_trans hp.out hY.lt)
        have hp1 : Hid (w.heap.size < w1.heap.size) := Lib.hid (Nat.lt_of_lt_of_le hp0.out hb1.size)
        clear hsum
        have h16 := array16_at
        have G1 : Hid ((Tryd.prog.info? 74).map (·.size) = some R.size) := Lib.hid (by rw [F4.out]; exact info43)
        have G2 : Hid (Z16.size = R.size) := Lib.hid (by rw [F4.out]; rfl)
        go_wp2_with (first
          | ((with_reducible refine wpList_store_row rfl 88 _ _ rfl w1.heap.size S rfl rfl 88 _ (heap_alloc_new w1 _) F1.out ?_ F2.out ?_); (focus (rw [F0.out]; rfl)))
          | ((with_reducible refine wpList_load_mid rfl 74 _ rfl w1.heap.size 0 rfl (S.toList.take 16) _ ?_ Tryd.underlying74 rfl ?_ ?_); (focus (exact rng16 _ _ S)); (focus (rw [F3.out, Array.length_toList]; exact G1.out)); (rw [F3.out, Array.toArray_toList]))
          | ((with_reducible refine wpList_store_row rfl 74 _ _ rfl w.heap.size R rfl rfl 74 Z16 ?_ G1.out G2.out F5.out ?_); (focus (exact ((hk1.alloc _).rowFar (Nat.ne_of_lt hp1.out) S).heap_))))
        refine ret_row (g := w.heap.size) (cs := R) (t := 74) Tryd.results44 ?_ ((((hk1.alloc _).rowFar (Nat.ne_of_lt hp1.out) S)).row R) rfl Tryd.underlying74 G1.out ?_ ?_
        · rfl
        · rfl
        · exact ⟨rfl, below_setRow (below_setRow (ok1.alloc _) ok1.size S) (Nat.le_refl _) R⟩
end Go.Proofs.YtnionejefpnfoaaDoor
