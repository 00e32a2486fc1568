/- The walks of Begin and Add. Condition: the round constants lie in their variable; the message is short. -/
import Derived.Test.YtnionejefpnfoaaDoorHd
import Derived.Deep.RegionWith
namespace Go.Proofs.YtnionejefpnfoaaDoor
open Go.RowKit
attribute [local go_sem] zeroValue73
attribute [local simp] zeroCells73_ne

theorem info73 : (Tryd.prog.info? 84).map (·.size) = some 73 := by kernel_rfl
theorem strm_one (s : St) (bl : List UInt8) (n : Nat) : ∀ v ∈ strm s bl n, v.oneCell' = true := by
  intro v hv
  simp only [strm, List.mem_append, List.mem_singleton] at hv
  rcases hv with (hv | hv) | rfl
  · exact (Array.all_eq_true_iff_forall_mem.1 (cells_one s)) v (by simpa using hv)
  · exact bytesV_one _ v hv
  · rfl

theorem strm_last (s : St) (bl : List UInt8) (n : Nat) (h : bl.length = 64) : (strm s bl n).toArray[72]? = some (.int .u64 (n : Int)) := by
  have h8 : s.cells.toList.length = 8 := rfl
  rw [List.getElem?_toArray]
  unfold strm
  rw [List.getElem?_append_right (by rw [List.length_append, h8, bytesV_length]; omega), List.length_append, h8, bytesV_length, h]
  rfl
theorem info_u8s : (Tryd.prog.info? 5).map (·.size) = some 1 := by kernel_rfl
theorem slice75_at (w : World) (g at_ : Nat) (h : at_ < 64) : (Instr.sliceAt 81 (.pointer (some ⟨g, 8, none⟩)) (some (.int .i64 (at_ : Int))) none none).run Tryd.prog w = .ok (.slice (some ⟨g, 8 + at_, none⟩) (64 - at_) (64 - at_)) w := by
  have e1 : Tryd.prog.arrayLen 81 = 64 := by kernel_rfl
  have e2 : Tryd.prog.elem 81 = 5 := by kernel_rfl
  have h1 := run_sliceAt_array_l (P := Tryd.prog) w 81 ⟨g, 8, none⟩ (by rw [e1, e2]; exact Tryd.underlying81) .i64 (at_ : Int) (by omega) (by rw [e1]; omega)
  rw [h1, e1, e2]
  have h2 : (sizeOf 5).run Tryd.prog w = .ok 1 w := Tryd.sizeOf5 w
  rw [h2, Result.andThen_ok]
  have h64 : ¬ 64 = at_ := by omega
  by_cases hz : at_ = 0
  · subst hz; simp [slicedAt, Addr.add]
  · simp [slicedAt, Addr.add, h64, hz]
theorem ext_list (x : ByteArray) (k : Nat) : (x.extract k x.size).data.toList = x.data.toList.drop k := by
  rw [ByteArray.data_extract, Array.toList_extract]
  have : x.data.toList.length = x.size := size_list x
  simp [List.take_of_length_le, this]
theorem Blk.row' {w w1 : World} {g : Nat} {t : TypeId} {cs : Array Value} {L L' : List Value} (h : Blk w g t cs) (e : L.toArray = L'.toArray) (hw : w1 = w.setRow g L.toArray) : Blk w1 g t L'.toArray := by
  rw [hw, ← e]; exact h.row _
/-- what Add leaves: a stream of the longer message -/
def Added (m : List UInt8) (w : World) (e : Ending) (W' : World) : Prop :=
  ∃ bl', IsStr m bl' ∧ e = .returned (.agg (strm (stN m (m.length / 64)) bl' m.length).toArray) ∧ Below w.heap.size w W'
def strLen : Value → Nat
  | .string s => s.size
  | _ => 0
/-- what holds while Add runs -/
structure Adds (w : World) (Z : Array Value) (mm bl : List UInt8) (wr : World) : Prop where
  b : Below w.heap.size w wr
  s : Blk wr w.heap.size 84 (strm (stN mm (mm.length / 64)) bl mm.length).toArray
  r : Blk wr (w.heap.size + 1) 84 Z
  i : IsStr mm bl
theorem strm_copy (s : St) (bl x : List UInt8) (n at_ k : Nat) (hb : bl.length = 64) (h : at_ + k ≤ 64) (hk : (x.take k).length = k) :
    ((strm s bl n).toArray.toList.take (8 + at_) ++ bytesV (x.take k) ++ (strm s bl n).toArray.toList.drop (8 + at_ + k)).toArray = (strm s (bl.take at_ ++ x.take k ++ bl.drop (at_ + k)) n).toArray := by
  have h8 : s.cells.toList.length = 8 := rfl
  have hbl : (bytesV bl).length = 64 := by rw [bytesV_length]; exact hb
  congr 1
  show (strm s bl n).take (8 + at_) ++ bytesV (x.take k) ++ (strm s bl n).drop (8 + at_ + k) = _
  unfold strm
  rw [List.append_assoc s.cells.toList, List.take_append, List.drop_append, h8, List.take_of_length_le (by omega), List.drop_of_length_le (by omega), show 8 + at_ - 8 = at_ by omega, show 8 + at_ + k - 8 = at_ + k by omega,
    List.take_append_of_le_length (by omega), List.drop_append_of_le_length (by omega), bytesV_append, bytesV_append]
  have e1 : (bytesV bl).take at_ = bytesV (bl.take at_) := by simp [bytesV, List.map_take]
  have e2 : (bytesV bl).drop (at_ + k) = bytesV (bl.drop (at_ + k)) := by simp [bytesV, List.map_drop]
  rw [e1, e2]
  simp only [List.nil_append, List.append_assoc]

theorem copied {w wr w1 : World} {Z : Array Value} {mm bl' bl2 : List UInt8} {s : St} {n : Nat} {cs : Array Value} {L : List Value} (hA : Adds w Z mm bl' wr) (hS : Blk wr w.heap.size 84 cs) (e : L.toArray = (strm s bl2 n).toArray)
    (hw : w1 = wr.setRow w.heap.size L.toArray) (h2 : bl2.length = 64) :
    w1.cell? ⟨w.heap.size, 72, none⟩ = some (.int .u64 (n : Int)) ∧ w1.frozen? ⟨w.heap.size, 72, none⟩ = false ∧ Below w.heap.size w w1 ∧ Blk w1 (w.heap.size + 1) 84 Z ∧ Blk w1 w.heap.size 84 (strm s bl2 n).toArray := by
  have hB := hS.row' e hw
  refine ⟨hB.at_ (strm_last s bl2 n h2), hB.frozen 72, ?_, ?_, hB⟩
  · rw [hw]; exact below_setRow hA.b (Nat.le_refl _) _
  · rw [hw]; exact hA.r.rowFar (by simp) _

theorem strm_set (s : St) (bl : List UInt8) (n k : Nat) (h : bl.length = 64) : (strm s bl n).toArray.setIfInBounds 72 (.int .u64 ((n : Int) + (k : Int))) = (strm s bl (n + k)).toArray := by
  have h8 : s.cells.toList.length = 8 := rfl
  rw [List.setIfInBounds_toArray]
  congr 1
  unfold strm
  rw [List.set_append_right _ _ (by rw [List.length_append, h8, bytesV_length, h]; omega), List.length_append, h8, bytesV_length, h]
  rfl
theorem adds_part {w w1 : World} {Z : Array Value} {mm bl2 x : List UInt8} {s : St} {k : Nat} (b1 : Below w.heap.size w w1) (r1 : Blk w1 (w.heap.size + 1) 84 Z) (hB : Blk w1 w.heap.size 84 (strm s bl2 mm.length).toArray)
    (hi : IsStr (mm ++ x) bl2) (hs : s = stN mm (mm.length / 64)) (hl : (mm ++ x).length = mm.length + k) (hc : (mm ++ x).length / 64 = mm.length / 64) :
    Adds w Z (mm ++ x) bl2 (w1.setCell ⟨w.heap.size, 72, none⟩ (.int .u64 ((mm.length : Int) + (k : Int)))) := by
  refine ⟨b1.setCell (Nat.le_refl _) _, ?_, r1.far (by simp) _, hi⟩
  have := hB.set_ 72 (.int .u64 ((mm.length : Int) + (k : Int)))
  rw [strm_set s bl2 mm.length k hi.1] at this
  rw [hc, hl, stN_app mm x _ (by omega), ← hs]
  exact this
theorem block_reads {w : World} {g : Nat} {s : St} {bl : List UInt8} {n : Nat} (h : Blk w g 84 (strm s bl n).toArray) (hb : bl.length = 64) : Reads w w.heap.size 1 (some ⟨g, 8, none⟩) 64 (bytesV bl) := by
  refine ⟨by rw [bytesV_length, hb], fun _ => ⟨_, rfl, h.lt, fun j u hu => ?_⟩⟩
  have hj : j < 64 := by have := (List.getElem?_eq_some_iff.1 hu).1; rw [bytesV_length, hb] at this; exact this
  rw [Addr.add_mid]
  refine h.at_ ?_
  rw [List.getElem?_toArray]
  unfold strm
  have h8 : s.cells.toList.length = 8 := rfl
  rw [List.getElem?_append_left (by rw [List.length_append, h8, bytesV_length, hb]; omega), List.getElem?_append_right (by omega), h8, Nat.add_sub_cancel_left]
  exact hu
theorem compress_ex (s : St) (A : Option Addr) (c : Nat) (b : List UInt8) (w : World) (hl : Reads w w.heap.size 1 A 64 (bytesV b)) (hc : 64 ≤ c) (hK : Consts w) (h0 : 0 < w.heap.size) :
    Calls Tryd.prog 56 #[.agg s.cells, .slice A 64 c] w fun e W' => ∃ q, Hid (q = comp s b) ∧ e = .returned (.agg #[.int .u32 (q.a.toNat : Int), .int .u32 (q.b.toNat : Int), .int .u32 (q.c.toNat : Int), .int .u32 (q.d.toNat : Int), .int .u32 (q.e.toNat : Int), .int .u32 (q.f.toNat : Int), .int .u32 (q.g.toNat : Int), .int .u32 (q.h.toNat : Int)]) ∧ Below w.heap.size w W' :=
  (compress_any s A c b w hl hc hK h0).mono fun _ _ ⟨h1, h2⟩ => ⟨comp s b, Lib.hid rfl, h1, h2⟩
theorem Consts.drew {w : World} (h : Consts w) : Consts w.drew := fun j x hx => h j x hx
theorem state_cells {w w' : World} {g : Nat} {s : St} {bl : List UInt8} {n : Nat} (h : Blk w g 84 (strm s bl n).toArray) (hb : Below w.heap.size w w') :
    Blk w' g 84 (strm s bl n).toArray ∧ (∀ i, w'.frozen? ⟨g, i, none⟩ = false) ∧ w'.cell? ⟨g, 0, none⟩ = some (.int .u32 (s.a.toNat : Int)) ∧ w'.cell? ⟨g, 1, none⟩ = some (.int .u32 (s.b.toNat : Int)) ∧
      w'.cell? ⟨g, 2, none⟩ = some (.int .u32 (s.c.toNat : Int)) ∧ w'.cell? ⟨g, 3, none⟩ = some (.int .u32 (s.d.toNat : Int)) ∧ w'.cell? ⟨g, 4, none⟩ = some (.int .u32 (s.e.toNat : Int)) ∧
      w'.cell? ⟨g, 5, none⟩ = some (.int .u32 (s.f.toNat : Int)) ∧ w'.cell? ⟨g, 6, none⟩ = some (.int .u32 (s.g.toNat : Int)) ∧ w'.cell? ⟨g, 7, none⟩ = some (.int .u32 (s.h.toNat : Int)) := by
  have k := h.below hb h.lt
  exact ⟨k, k.frozen, k.at_ (i := 0) rfl, k.at_ (i := 1) rfl, k.at_ (i := 2) rfl, k.at_ (i := 3) rfl, k.at_ (i := 4) rfl, k.at_ (i := 5) rfl, k.at_ (i := 6) rfl, k.at_ (i := 7) rfl⟩
theorem Consts.below {w w' : World} (h : Consts w) (hb : Below 1 w w') : Consts w' := fun j x hx => (hb.cell (p := ⟨0, j, none⟩) (Nat.zero_lt_one)).trans (h j x hx)

theorem strm_state (s q : St) (bl : List UInt8) (n : Nat) : (((((((((strm s bl n).toArray.setIfInBounds 0 (.int .u32 (q.a.toNat : Int))).setIfInBounds 1 (.int .u32 (q.b.toNat : Int))).setIfInBounds 2 (.int .u32 (q.c.toNat : Int))).setIfInBounds 3 (.int .u32 (q.d.toNat : Int))).setIfInBounds 4 (.int .u32 (q.e.toNat : Int))).setIfInBounds 5 (.int .u32 (q.f.toNat : Int))).setIfInBounds 6 (.int .u32 (q.g.toNat : Int))).setIfInBounds 7 (.int .u32 (q.h.toNat : Int))) = (strm q bl n).toArray := by
  unfold strm
  simp only [List.setIfInBounds_toArray]
  congr 1
theorem adds_full {w w3 : World} {Z : Array Value} {mm bl2 x : List UInt8} {s q : St} {k : Nat} (b3 : Below w.heap.size w w3) (r3 : Blk w3 (w.heap.size + 1) 84 Z) (h3 : Blk w3 w.heap.size 84 (strm s bl2 (mm.length + k)).toArray)
    (hi : IsStr (mm ++ x) bl2) (hs : s = stN mm (mm.length / 64)) (hl : (mm ++ x).length = mm.length + k) (hq : q = comp s bl2) (fb : blk (mm ++ x) (mm.length / 64) = bl2) (fl : (mm ++ x).length / 64 = mm.length / 64 + 1) :
    Adds w Z (mm ++ x) bl2 ((((((((w3.setCell ⟨w.heap.size, 0, none⟩ (.int .u32 (q.a.toNat : Int))).setCell ⟨w.heap.size, 1, none⟩ (.int .u32 (q.b.toNat : Int))).setCell ⟨w.heap.size, 2, none⟩ (.int .u32 (q.c.toNat : Int))).setCell ⟨w.heap.size, 3, none⟩ (.int .u32 (q.d.toNat : Int))).setCell ⟨w.heap.size, 4, none⟩ (.int .u32 (q.e.toNat : Int))).setCell ⟨w.heap.size, 5, none⟩ (.int .u32 (q.f.toNat : Int))).setCell ⟨w.heap.size, 6, none⟩ (.int .u32 (q.g.toNat : Int))).setCell ⟨w.heap.size, 7, none⟩ (.int .u32 (q.h.toNat : Int))) := by
  refine ⟨((((((((b3.setCell (Nat.le_refl _) _).setCell (Nat.le_refl _) _).setCell (Nat.le_refl _) _).setCell (Nat.le_refl _) _).setCell (Nat.le_refl _) _).setCell (Nat.le_refl _) _).setCell (Nat.le_refl _) _).setCell (Nat.le_refl _) _), ?_, ((((((((r3.far (by simp) _).far (by simp) _).far (by simp) _).far (by simp) _).far (by simp) _).far (by simp) _).far (by simp) _).far (by simp) _), hi⟩
  have e : stN (mm ++ x) ((mm ++ x).length / 64) = q := by
    rw [fl, stN, stN_app mm x _ (by omega), fb, ← hs, hq]
  rw [e, hl, ← strm_state s q]
  exact ((((((((h3.set_ 0 (.int .u32 (q.a.toNat : Int))).set_ 1 (.int .u32 (q.b.toNat : Int))).set_ 2 (.int .u32 (q.c.toNat : Int))).set_ 3 (.int .u32 (q.d.toNat : Int))).set_ 4 (.int .u32 (q.e.toNat : Int))).set_ 5 (.int .u32 (q.f.toNat : Int))).set_ 6 (.int .u32 (q.g.toNat : Int))).set_ 7 (.int .u32 (q.h.toNat : Int)))

set_option maxRecDepth 100000 in
set_option maxHeartbeats 8000000 in
theorem add_any (m bl : List UInt8) (t : ByteArray) (w : World) (hB : IsStr m bl) (hlen : m.length + t.size ≤ 1000000000000) (hK : Consts w) (h0 : 0 < w.heap.size) :
    Calls Tryd.prog 49 #[.agg (strm (stN m (m.length / 64)) bl m.length).toArray, .string t] w (Added (m ++ t.data.toList) w) := by
  obtain ⟨X, hX⟩ : ∃ X, X = (strm (stN m (m.length / 64)) bl m.length).toArray := ⟨_, rfl⟩
  rw [← hX]
  have HX := Lib.hid hX
  clear hX
  obtain ⟨M, hM⟩ : ∃ M, M = m ++ t.data.toList := ⟨_, rfl⟩
  rw [← hM]
  have hML : M.length ≤ 1000000000000 := by rw [hM, List.length_append, size_list]; omega
  have HM := Lib.hid hM
  clear hM
  go_enter Tryd.func49, Tryd.ntmps49
  go_wp2_with fail
  refine wp_world fun wb hwb => ?_
  obtain ⟨Z, hZ⟩ : ∃ Z : Array Value, Z = (List.replicate 8 (Value.int .u32 0) ++ List.replicate 64 (Value.int .u8 0) ++ [Value.int .u64 0]).toArray := ⟨_, rfl⟩
  have hw2 : wb = (w.alloc (.cells X 84)).alloc (.cells Z 84) := by rw [hwb, hZ]; rfl
  have A0 : Adds w Z m bl wb := by
    rw [hw2]
    refine ⟨((Below.refl _ w).alloc (Nat.le_refl _) _).alloc (by simp) _, ?_, ?_, hB⟩
    · rw [← HX.out]; exact (Blk.new w 84 X).alloc _
    · have := Blk.new (w.alloc (.cells X 84)) 84 Z; simpa using this
  have hz : Z.size = 73 := by rw [hZ]; rfl
  have HZ := Lib.hid hz
  clear hwb hw2 hz hZ
  go_loopw [1] (fun v wr => ∃ (mm bl' : List UInt8) (x : ByteArray), v = .string x ∧ Hid (mm ++ x.data.toList = M) ∧ Adds w Z mm bl' wr) (fun v _ => strLen v)
  case atStart => exact ⟨m, bl, t, rfl, HM.out.symm, A0⟩
  case round =>
    clear A0 hB
    obtain ⟨mm, bl', x, rfl, HT, hA⟩ := hrel
    have hlx : mm.length + x.size = M.length := by have := congrArg List.length HT.out; rw [List.length_append, size_list] at this; exact this
    by_cases hx : x.size = 0
    · have e1 : x.toList = [] := by rw [ByteArray.toList_eq]; exact List.eq_nil_of_length_eq_zero (by rw [size_list]; exact hx)
      have hR : Hid ((strm (stN mm (mm.length / 64)) bl' mm.length).toArray.size = 73) := Lib.hid (by rw [List.size_toArray]; exact strm_length _ _ hA.i.1)
      have hO : Hid ((strm (stN mm (mm.length / 64)) bl' mm.length).toArray.all (·.oneCell') = true) := Lib.hid (all_oneCell_toArray (strm_one _ _ _))
      have hMM : Hid (mm = M) := Lib.hid (by rw [← HT.out, List.eq_nil_of_length_eq_zero (l := x.data.toList) (by rw [size_list]; exact hx), List.append_nil])
      have hs := hA.s
      obtain ⟨R, hRR⟩ : ∃ R, R = (strm (stN mm (mm.length / 64)) bl' mm.length).toArray := ⟨_, rfl⟩
      rw [← hRR] at hs hR hO
      have HRR := Lib.hid hRR
      have G1 : Hid ((Tryd.prog.info? 84).map (·.size) = some R.size) := Lib.hid (by rw [hR.out]; exact info73)
      have G2 : Hid (Z.size = R.size) := Lib.hid (by rw [hR.out, HZ.out])
      clear hRR hx hlx
      go_wp2_with (first
        | (with_reducible refine wpList_load_row rfl 84 _ rfl w.heap.size rfl 84 R (0, 0) _ hs.heap_ Tryd.underlying84 rfl G1.out ?_)
        | (with_reducible refine wpList_store_row rfl 84 _ _ rfl (w.heap.size + 1) R rfl rfl 84 Z hA.r.heap_ G1.out G2.out hO.out ?_))
      refine ret_row (g := w.heap.size + 1) (cs := R) (t := 84) Tryd.results49 ?_ (hA.r.row R) rfl Tryd.underlying84 G1.out ?_ ?_
      · rfl
      · rfl
      · refine ⟨bl', ?_, ?_, below_setRow hA.b (by omega) R⟩
        · rw [← hMM.out]; exact hA.i
        · rw [HRR.out, hMM.out]
    · have e2 : x.toList.isEmpty = false := by
        rw [ByteArray.toList_eq]
        cases hq : x.data.toList with
        | nil => exfalso; apply hx; rw [← size_list, hq]; rfl
        | cons a l => rfl
      have e3 : (!x.toList.isEmpty) = true := by rw [e2]; rfl
      have q72 : wr.cell? ⟨w.heap.size, 72, none⟩ = some (.int .u64 (mm.length : Int)) := hA.s.at_ (strm_last _ _ _ hA.i.1)
      obtain ⟨at_, hat⟩ : ∃ at_, at_ = mm.length % 64 := ⟨_, rfl⟩
      have hatl : at_ < 64 := by rw [hat]; exact Nat.mod_lt _ (by omega)
      have hmod : (mm.length : Int) % 64 = (at_ : Int) := by rw [hat]; rfl
      have HAT := Lib.hid hat
      have hml : (mm.length : Int) ≤ 1000000000000 := by omega
      have hatc : (at_ : Int) ≤ 64 := by omega
      have hsl := fun W => slice75_at W w.heap.size at_ (by omega)
      obtain ⟨k, hk⟩ : ∃ k, k = Nat.min x.size (64 - at_) := ⟨_, rfl⟩
      have hk1 : k ≤ x.size := by rw [hk]; exact Nat.min_le_left _ _
      have hk2 : k ≤ 64 - at_ := by rw [hk]; exact Nat.min_le_right _ _
      have hk3 : 0 < k := by rw [hk]; exact Nat.lt_min.2 ⟨by omega, by omega⟩
      have HK := Lib.hid hk
      have HF : Hid (8 + at_ + k ≤ (strm (stN mm (mm.length / 64)) bl' mm.length).toArray.size) := Lib.hid (by rw [List.size_toArray, strm_length _ _ hA.i.1]; omega)
      clear hat hlx hk
      obtain ⟨s, hs⟩ : ∃ s, s = stN mm (mm.length / 64) := ⟨_, rfl⟩
      have hSs := hA.s
      rw [← hs] at hSs HF
      have HS := Lib.hid hs
      clear hs
      have hxl : x.data.toList.length = x.size := size_list x
      have hkk : k = min x.data.toList.length (64 - mm.length % 64) := by
        rw [hxl]
        rw [← HAT.out]
        exact HK.out
      have hkp : 0 < x.data.toList.length := by
        rw [hxl]
        omega
      obtain ⟨iA, iB, iC⟩ := isStr_add (t := x.data.toList) (k := k) hA.i hkk hkp
      clear hkk hkp
      rw [← HAT.out] at iA iB iC
      obtain ⟨bl2, hbl2⟩ : ∃ bl2, bl2 = bl'.take at_ ++ x.data.toList.take k ++ bl'.drop (at_ + k) := ⟨_, rfl⟩
      rw [← hbl2] at iA iB
      have hcp := strm_copy s bl' x.data.toList mm.length at_ k hA.i.1 (by omega) (by rw [List.length_take, hxl]; omega)
      rw [← hbl2] at hcp
      have HCP := Lib.hid hcp
      have HX2 : Hid ((x.extract k x.size).data.toList = x.data.toList.drop k) := Lib.hid (ext_list x k)
      have hx2 : (x.extract k x.size).size < x.size := by rw [← size_list, HX2.out, List.length_drop, hxl]; omega
      have HT2 : Hid ((mm ++ x.data.toList.take k) ++ (x.extract k x.size).data.toList = M) := Lib.hid (by rw [HX2.out, List.append_assoc, List.take_append_drop, HT.out])
      have HL2 : Hid ((mm ++ x.data.toList.take k).length = mm.length + k) := Lib.hid (by rw [List.length_append, List.length_take, hxl]; omega)
      have HB := Lib.hid iB
      have HC2 := Lib.hid iC
      clear hcp hbl2 hxl iB iC hSs
      have hSs : Blk wr w.heap.size 84 (strm s bl' mm.length).toArray := by rw [HS.out]; exact hA.s
      by_cases hfull : at_ + k = 64
      · have t1 : ((at_ : Int) + (k : Int) == 64) = true := by simp; omega
        have HFU := Lib.hid hfull
        clear hfull
        go_wp2_with ((with_reducible refine wpList_copy_str rfl _ _ 48 9 rfl 5 w.heap.size (8 + at_) (64 - at_) (64 - at_) x _ 84 Tryd.underlying48 info_u8s rfl rfl hSs.heap_ k HK.out HF.out ?_); intro w1 hw1; obtain ⟨p72, f72, b1, r1, hB1⟩ := copied hA hSs HCP.out hw1.out iA.1; clear hw1)
        obtain ⟨fb, fl⟩ := HB.out HFU.out
        have FB := Lib.hid fb
        have FL := Lib.hid fl
        clear fb fl p72 q72
        have hB2 := hB1.set_ 72 (.int .u64 ((mm.length : Int) + (k : Int)))
        have b2 := b1.setCell (p := ⟨w.heap.size, 72, none⟩) (Nat.le_refl _) (.int .u64 ((mm.length : Int) + (k : Int)))
        have r2 := r1.far (p := ⟨w.heap.size, 72, none⟩) (by simp) (.int .u64 ((mm.length : Int) + (k : Int)))
        rw [strm_set s bl2 mm.length k iA.1] at hB2
        refine wp_world fun w2 hw2 => ?_
        rw [← hw2] at hB2 b2 r2
        clear hw2 b1 r1 hB1 f72
        have hK2 := hK.below (b2.mono h0)
        have c0 := hB2.at_ (i := 0) (v := .int .u32 (s.a.toNat : Int)) rfl
        have c1 := hB2.at_ (i := 1) (v := .int .u32 (s.b.toNat : Int)) rfl
        have c2 := hB2.at_ (i := 2) (v := .int .u32 (s.c.toNat : Int)) rfl
        have c3 := hB2.at_ (i := 3) (v := .int .u32 (s.d.toNat : Int)) rfl
        have c4 := hB2.at_ (i := 4) (v := .int .u32 (s.e.toNat : Int)) rfl
        have c5 := hB2.at_ (i := 5) (v := .int .u32 (s.f.toNat : Int)) rfl
        have c6 := hB2.at_ (i := 6) (v := .int .u32 (s.g.toNat : Int)) rfl
        have c7 := hB2.at_ (i := 7) (v := .int .u32 (s.h.toNat : Int)) rfl
        have hfr := hB2.frozen
        go_region_with (go_at_call 56; refine (compress_ex s (some ⟨w.heap.size, 8, none⟩) 64 bl2 w2.drew (block_reads hB2.drew iA.1) (Nat.le_refl _) hK2.drew (Nat.lt_of_lt_of_le h0 b2.size)).mono ?_; rintro e w3 ⟨q, HQ, rfl, hb3⟩; obtain ⟨h3, f3, d0, d1, d2, d3, d4, d5, d6, d7⟩ := state_cells hB2.drew hb3)
        all_goals
          have b3 : Below w.heap.size w w3 := b2.drew.trans (hb3.mono b2.size)
          have r3 : Blk w3 (w.heap.size + 1) 84 Z := r2.drew.below hb3 r2.lt
          go_wp2_with fail
          go_roundw
          case rel => exact ⟨mm ++ x.data.toList.take k, bl2, x.extract k x.size, rfl, HT2, adds_full b3 r3 h3 iA HS.out HL2.out HQ.out FB.out FL.out⟩
          case measure => exact hx2
      · have t1 : ((at_ : Int) + (k : Int) == 64) = false := by simp; omega
        have HFU := Lib.hid hfull
        clear hfull
        go_wp2_with ((with_reducible refine wpList_copy_str rfl _ _ 48 9 rfl 5 w.heap.size (8 + at_) (64 - at_) (64 - at_) x _ 84 Tryd.underlying48 info_u8s rfl rfl hSs.heap_ k HK.out HF.out ?_); intro w1 hw1; obtain ⟨p72, f72, b1, r1, hB1⟩ := copied hA hSs HCP.out hw1.out iA.1; clear hw1)
        go_roundw
        case rel => exact ⟨mm ++ x.data.toList.take k, bl2, x.extract k x.size, rfl, HT2, adds_part b1 r1 hB1 iA HS.out HL2.out (HC2.out HFU.out)⟩
        case measure => exact hx2
end Go.Proofs.YtnionejefpnfoaaDoor
