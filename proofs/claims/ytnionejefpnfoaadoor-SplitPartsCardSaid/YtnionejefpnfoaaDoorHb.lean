/- The message schedule: the specification and the walk of schedule. -/
import Derived.Test.YtnionejefpnfoaaDoorHa
import Derived.Test.YtnionejefpnfoaaDoorHm
import Derived.RegionTactic
import Derived.BigRegion
import Derived.ChangeAlike
import Derived.IntWalk
namespace Go.Proofs.YtnionejefpnfoaaDoor
open Go.RowKit

def sig0 (x : UInt32) : UInt32 := xw (xw (rotr x 7) (rotr x 18)) (sw x 3)
def sig1 (x : UInt32) : UInt32 := xw (xw (rotr x 17) (rotr x 19)) (sw x 10)
/-- the first i bytes of the word t of a block -/
def part (b : List UInt8) (t : Nat) : Nat → UInt32
  | 0 => 0
  | i + 1 => ow (lw (part b t i) 8) (UInt32.ofNat (b[4 * t + i]?.getD 0).toNat)
def nth (W : List UInt32) (j : Nat) : UInt32 := W[j]?.getD 0
/-- the next word of the schedule -/
def nextW (b : List UInt8) (W : List UInt32) : UInt32 :=
  if W.length < 16 then part b W.length 4 else aw (aw (aw (nth W (W.length - 16)) (sig0 (nth W (W.length - 15)))) (nth W (W.length - 7))) (sig1 (nth W (W.length - 2)))
/-- the first t words -/
def schedN (b : List UInt8) : Nat → List UInt32
  | 0 => []
  | t + 1 => schedN b t ++ [nextW b (schedN b t)]
theorem schedN_length (b : List UInt8) (t : Nat) : (schedN b t).length = t := by
  induction t with
  | zero => rfl
  | succ t ih => simp [schedN, ih]
/-- the words so far, and zeros up to 64 -/
def pad (W : List UInt32) : List UInt32 := W ++ List.replicate (64 - W.length) 0
theorem w32s_length (l : List UInt32) : (w32s l).length = l.length := by simp [w32s]
theorem w32s_get (l : List UInt32) (j : Nat) : (w32s l)[j]? = l[j]?.map w32 := by simp [w32s]
theorem pad_length {W : List UInt32} (h : W.length ≤ 64) : (pad W).length = 64 := by simp [pad]; omega
theorem pad_get {W : List UInt32} {j : Nat} (h : j < W.length) : (pad W)[j]? = some (nth W j) := by
  unfold pad nth; rw [List.getElem?_append_left h, List.getElem?_eq_getElem h]; rfl
theorem pad_zero {W : List UInt32} (h : W.length < 64) : (pad W)[W.length]? = some 0 := by
  unfold pad; rw [List.getElem?_append_right (Nat.le_refl _), Nat.sub_self]; simp [List.getElem?_replicate]; omega
theorem pad_snoc {W : List UInt32} (x : UInt32) (h : W.length < 64) : (pad W).set W.length x = pad (W ++ [x]) := by
  unfold pad
  rw [List.set_append_right _ _ (Nat.le_refl _), Nat.sub_self, List.append_assoc, List.length_append, List.length_singleton]
  congr 1
  obtain ⟨k, hk⟩ : ∃ k, 64 - W.length = k + 1 := ⟨64 - W.length - 1, by omega⟩
  rw [hk, show 64 - (W.length + 1) = k by omega, List.replicate_succ]
  rfl
theorem w32s_set (l : List UInt32) (j : Nat) (x : UInt32) : (w32s (l.set j x)).toArray = (w32s l).toArray.setIfInBounds j (w32 x) := by
  simp [w32s, List.map_set]
theorem pad_set0 (b : List UInt8) (t : Nat) (h : t < 64) : (pad (schedN b t)).set t (part b t 0) = pad (schedN b t) := by
  have hl := schedN_length b t
  apply List.ext_getElem?
  intro i
  by_cases e : t = i
  · subst e
    have := pad_zero (W := schedN b t) (by omega)
    rw [hl] at this
    rw [List.getElem?_set_self (by rw [pad_length (by omega)]; exact h), this]; rfl
  · rw [List.getElem?_set_ne e]
/-- a block of words -/
theorem words_at {w : World} {g : Nat} {t : TypeId} {l : List UInt32} (h : Blk w g t (w32s l).toArray) {j : Nat} {x : UInt32} (hx : l[j]? = some x) : w.cell? ⟨g, j, none⟩ = some (.int .u32 (x.toNat : Int)) :=
  h.at_ (by rw [List.getElem?_toArray, w32s_get, hx]; rfl)
theorem words_set {w : World} {g : Nat} {t : TypeId} {l : List UInt32} (h : Blk w g t (w32s l).toArray) (j : Nat) (x : UInt32) : Blk (w.setCell ⟨g, j, none⟩ (.int .u32 (x.toNat : Int))) g t (w32s (l.set j x)).toArray := by
  rw [w32s_set]; exact h.set_ j (w32 x)

theorem part_step (b : List UInt8) (t i : Nat) : bits .or .u32 (((part b t i).toNat : Int) * 256 % 4294967296) (((b[4 * t + i]?.getD 0).toNat : Nat) : Int) = ((part b t (i + 1)).toNat : Int) := by
  have h1 := w_shl (part b t i) 8 (by omega)
  rw [show ((2 ^ 8 : Nat) : Int) = 256 from rfl] at h1
  have h2 : (((b[4 * t + i]?.getD 0).toNat : Nat) : Int) = ((UInt32.ofNat (b[4 * t + i]?.getD 0).toNat).toNat : Int) := by
    have := (b[4 * t + i]?.getD 0).toNat_lt
    rw [UInt32.toNat_ofNat', Nat.mod_eq_of_lt (by omega)]
  rw [h1, h2, w_or]; rfl
theorem sched_word {b : List UInt8} {t : Nat} (hS : (schedN b t).length = t) (h : t < 16) : (pad (schedN b t)).set t (part b t 4) = pad (schedN b (t + 1)) := by
  have := pad_snoc (W := schedN b t) (nextW b (schedN b t)) (by omega)
  rw [hS] at this
  rw [schedN, ← this]
  unfold nextW
  rw [hS, if_pos h]

theorem w32s_one (l : List UInt32) : (w32s l).toArray.all (·.oneCell') = true := by
  refine all_oneCell_toArray fun v hv => ?_
  obtain ⟨x, -, rfl⟩ := List.mem_map.1 hv
  rfl
theorem info64 : (Tryd.prog.info? 95).map (·.size) = some 64 := by kernel_rfl
theorem sched_next {b : List UInt8} {t : Nat} (hS : (schedN b t).length = t) (h : t < 64) : (pad (schedN b t)).set t (nextW b (schedN b t)) = pad (schedN b (t + 1)) := by
  have := pad_snoc (W := schedN b t) (nextW b (schedN b t)) (by omega)
  rw [hS] at this
  rw [schedN, ← this]

set_option maxRecDepth 100000 in
set_option maxHeartbeats 4000000 in
theorem schedule_any (A : Option Addr) (c : Nat) (b : List UInt8) (w : World) (hl : Reads w w.heap.size 1 A 64 (bytesV b)) (hc : 64 ≤ c) :
    Calls Tryd.prog 59 #[.slice A 64 c] w fun e W' => e = .returned (.agg (w32s (schedN b 64)).toArray) ∧ Below w.heap.size w W' := by
  obtain ⟨ad, rfl, -⟩ := hl.byte_at (k := 0) (by omega)
  obtain ⟨C, hC⟩ : ∃ C, C = (w32s (schedN b 64)).toArray := ⟨_, rfl⟩
  rw [← hC]
  have HC := Lib.hid hC
  clear hC
  go_enter Tryd.func59, Tryd.ntmps59
  go_wp2_with fail
  obtain ⟨Z, hZ⟩ : ∃ Z, Z = (w32s (pad [])).toArray := ⟨_, rfl⟩
  go_loopw [11] (fun i wr => ∃ t : Nat, t ≤ 64 ∧ i = .int .i64 t ∧ Blk wr (w.heap.size + 1) 95 (w32s (pad (schedN b t))).toArray ∧ Blk wr w.heap.size 95 Z ∧ Below w.heap.size w wr) (fun i _ => 64 - (intOf i).toNat)
  case atStart =>
    refine ⟨0, by omega, rfl, ?_, ?_, ?_⟩
    · have := Blk.new (w.alloc (.cells (w32s (pad [])).toArray 95)) 95 (w32s (pad [])).toArray; rw [show (w.alloc (.cells (w32s (pad [])).toArray 95)).heap.size = w.heap.size + 1 by simp] at this; exact this
    · rw [hZ]; exact (Blk.new w 95 _).alloc _
    · exact ((Below.refl _ w).alloc (Nat.le_refl _) _).alloc (by simp) _
  case round =>
    obtain ⟨t, ht, rfl, hB, hR, hb⟩ := hrel
    have hz64 : Z.size = 64 := by rw [hZ]; rfl
    have HZ := Lib.hid hz64
    clear hZ hz64
    have hS := schedN_length b t
    obtain ⟨wo, rfl⟩ : ∃ wo : World, wo = wr := ⟨_, rfl⟩
    by_cases hlt : t < 64
    · have hti : (t : Int) < 64 := by omega
      by_cases h16 : t < 16
      · have h16i : (t : Int) < 16 := by omega
        have hp0 := pad_set0 b t hlt
        have HS := Lib.hid hS
        have HP := Lib.hid hp0
        clear hS hp0
        go_wp2_with fail
        go_loopw [24] (fun j wr => ∃ i : Nat, i ≤ 4 ∧ j = .int .i64 i ∧ Blk wr (w.heap.size + 1) 95 (w32s ((pad (schedN b t)).set t (part b t i))).toArray ∧ Blk wr w.heap.size 95 Z ∧ Below w.heap.size w wr) (fun i _ => 4 - (intOf i).toNat)
        case atStart => exact ⟨0, by omega, rfl, by rw [HP.out]; exact hB, hR, hb⟩
        case round =>
          clear hB hR hb
          obtain ⟨i, hi, rfl, hB, hR, hb⟩ := hrel
          by_cases hil : i < 4
          · have hii : (i : Int) < 4 := by omega
            obtain ⟨ad', e1, -, -, hc1⟩ := (hl.below hb).byte_at (k := 4 * t + i) (by omega)
            cases e1
            have c1 : wr.cell? ((ad.add (4 * t)).add i) = some (.int .u8 ((b[4 * t + i]?.getD 0).toNat : Int)) := by rw [add_add']; exact hc1
            have c2 : wr.cell? ⟨w.heap.size + 1, t, none⟩ = some (.int .u32 ((part b t i).toNat : Int)) := words_at hB (by rw [List.getElem?_set_self (by rw [pad_length (by rw [HS.out]; omega)]; exact hlt)])
            have f2 : wr.frozen? ⟨w.heap.size + 1, t, none⟩ = false := hB.frozen t
            have hx := u32_lt (part b t i)
            have hy : (((b[4 * t + i]?.getD 0).toNat : Nat) : Int) < 256 := by have := (b[4 * t + i]?.getD 0).toNat_lt; omega
            clear hc1
            go_wp2_with fail
            have e := part_step b t i
            rw [e]
            go_roundw
            case rel => exact ⟨i + 1, by omega, by go_num, by have := words_set hB t (part b t (i + 1)); rwa [List.set_set] at this, hR.far (by simp) _, hb.setCell (by simp) _⟩
            case measure => simp [intOf]; omega
          · obtain rfl : i = 4 := by omega
            go_wp2_with fail
            go_roundw
            case rel => exact ⟨t + 1, by omega, by go_num, by rw [sched_word HS.out h16] at hB; exact hB, hR, hb⟩
            case measure => simp [intOf]; omega
      · have h16i : ¬ (t : Int) < 16 := by omega
        have HS := Lib.hid hS
        have q15 : wo.cell? ⟨w.heap.size + 1, ((t : Int) - 15).toNat, none⟩ = some (.int .u32 ((nth (schedN b t) (t - 15)).toNat : Int)) := by rw [show ((t : Int) - 15).toNat = t - 15 by omega]; exact words_at hB (pad_get (by omega))
        have q2 : wo.cell? ⟨w.heap.size + 1, ((t : Int) - 2).toNat, none⟩ = some (.int .u32 ((nth (schedN b t) (t - 2)).toNat : Int)) := by rw [show ((t : Int) - 2).toNat = t - 2 by omega]; exact words_at hB (pad_get (by omega))
        have q16 : wo.cell? ⟨w.heap.size + 1, ((t : Int) - 16).toNat, none⟩ = some (.int .u32 ((nth (schedN b t) (t - 16)).toNat : Int)) := by rw [show ((t : Int) - 16).toNat = t - 16 by omega]; exact words_at hB (pad_get (by omega))
        have q7 : wo.cell? ⟨w.heap.size + 1, ((t : Int) - 7).toNat, none⟩ = some (.int .u32 ((nth (schedN b t) (t - 7)).toNat : Int)) := by rw [show ((t : Int) - 7).toNat = t - 7 by omega]; exact words_at hB (pad_get (by omega))
        have f1 : wo.frozen? ⟨w.heap.size + 1, t, none⟩ = false := hB.frozen t
        have z0 : wo.cell? ⟨w.heap.size + 1, t, none⟩ = some (.int .u32 0) := by have h := pad_zero (W := schedN b t) (by omega); rw [hS] at h; exact words_at hB h
        have HN : Hid (nextW b (schedN b t) = aw (aw (aw (nth (schedN b t) (t - 16)) (sig0 (nth (schedN b t) (t - 15)))) (nth (schedN b t) (t - 7))) (sig1 (nth (schedN b t) (t - 2)))) := by
          show nextW b (schedN b t) = _
          unfold nextW
          rw [hS, if_neg h16]
        generalize nth (schedN b t) (t - 15) = x15 at *
        generalize nth (schedN b t) (t - 2) = x2 at *
        generalize nth (schedN b t) (t - 16) = x16 at *
        generalize nth (schedN b t) (t - 7) = x7 at *
        have b15 := u32_lt x15
        have b2 := u32_lt x2
        clear hS
        have i15 : (0 : Int) ≤ (t : Int) - 15 := by omega
        have j15 : (t : Int) - 15 < 64 := by omega
        have i2 : (0 : Int) ≤ (t : Int) - 2 := by omega
        have j2 : (t : Int) - 2 < 64 := by omega
        have p15 : (15 : Int) ≤ (t : Int) := by omega
        have p2 : (2 : Int) ≤ (t : Int) := by omega
        have p16 : (16 : Int) ≤ (t : Int) := by omega
        have p7 : (7 : Int) ≤ (t : Int) := by omega
        have j16 : (t : Int) - 16 < 64 := by omega
        have j7 : (t : Int) - 7 < 64 := by omega
        have w15 : IntKind.i64.wrap ((t : Int) - 15) = (t : Int) - 15 := IntWalk.i64_in _ (by omega)
        have w2 : IntKind.i64.wrap ((t : Int) - 2) = (t : Int) - 2 := IntWalk.i64_in _ (by omega)
        go_wp2_with fail
        go_quiet (fail)
        have s1 := w_xor (rotr x15 7) (rotr x15 18)
        have s2 := w_shr x15 3 (by omega)
        rw [show ((2 ^ 3 : Nat) : Int) = 8 from rfl] at s2
        have s3 : bits .xor .u32 ((xw (rotr x15 7) (rotr x15 18)).toNat : Int) ((sw x15 3).toNat : Int) = ((sig0 x15).toNat : Int) := w_xor _ _
        have r1 := w_xor (rotr x2 17) (rotr x2 19)
        have r2 := w_shr x2 10 (by omega)
        rw [show ((2 ^ 10 : Nat) : Int) = 1024 from rfl] at r2
        have r3 : bits .xor .u32 ((xw (rotr x2 17) (rotr x2 19)).toNat : Int) ((sw x2 10).toNat : Int) = ((sig1 x2).toNat : Int) := w_xor _ _
        go_wp2_with fail
        refine (rot7_any x15 _).mono ?_
        rintro e w' ⟨rfl, rfl⟩
        simp only [w32]
        go_wp2_with fail
        refine (rot18_any x15 _).mono ?_
        rintro e w' ⟨rfl, rfl⟩
        simp only [w32]
        go_wp2_with fail
        refine (rot17_any x2 _).mono ?_
        rintro e w' ⟨rfl, rfl⟩
        simp only [w32]
        go_wp2_with fail
        refine (rot19_any x2 _).mono ?_
        rintro e w' ⟨rfl, rfl⟩
        simp only [w32]
        have w16 : IntKind.i64.wrap ((t : Int) - 16) = (t : Int) - 16 := IntWalk.i64_in _ (by omega)
        have w7 : IntKind.i64.wrap ((t : Int) - 7) = (t : Int) - 7 := IntWalk.i64_in _ (by omega)
        go_wp2_with fail
        clear s1 s2 s3 r1 r2 r3
        generalize sig0 x15 = y0 at *
        generalize sig1 x2 = y1 at *
        have a1 := w_addw x16 y0
        have a2 := w_addw (aw x16 y0) x7
        have a3 := w_addw (aw (aw x16 y0) x7) y1
        go_region
        all_goals
          have hB2 := words_set (hB.drewN (nq + 1)) t (aw (aw (aw x16 y0) x7) y1)
          rw [← HN.out, sched_next HS.out hlt, HN.out] at hB2
          have hR2 := (hR.drewN (nq + 1)).far (p := ⟨w.heap.size + 1, t, none⟩) (by simp) (.int .u32 ((aw (aw (aw x16 y0) x7) y1).toNat : Int))
          have hb2 := (below_drewN' hb (nq + 1)).setCell (p := ⟨w.heap.size + 1, t, none⟩) (by simp) (.int .u32 ((aw (aw (aw x16 y0) x7) y1).toNat : Int))
          go_wp2_with fail
          go_roundw
          case rel => exact ⟨t + 1, by omega, by go_num, hB2, hR2, hb2⟩
          case measure => simp [intOf]; omega
    · obtain rfl : t = 64 := by omega
      have e64 : pad (schedN b 64) = schedN b 64 := by unfold pad; rw [schedN_length]; simp
      rw [e64] at hB
      have hl64 : (w32s (schedN b 64)).toArray.size = 64 := by simp [w32s, schedN_length]
      have HL := Lib.hid hl64
      have hone : (w32s (schedN b 64)).toArray.all (·.oneCell') = true := w32s_one _
      have HO := Lib.hid hone
      rw [← HC.out] at hB HL HO
      clear hS e64 hl64 hone
      have HI : Hid ((Tryd.prog.info? 95).map (·.size) = some C.size) := Lib.hid (by rw [HL.out]; exact info64)
      have HZC : Hid (Z.size = C.size) := Lib.hid (by rw [HL.out, HZ.out])
      go_wp2_with (first
        | (with_reducible refine wpList_load_row rfl 95 _ rfl (w.heap.size + 1) rfl 95 C (0, 0) _ hB.heap_ Tryd.underlying95 rfl HI.out ?_)
        | (with_reducible refine wpList_store_row rfl 95 _ _ rfl w.heap.size C rfl rfl 95 Z hR.heap_ HI.out HZC.out HO.out ?_))
      refine ret_row (g := w.heap.size) (cs := C) (t := 95) Tryd.results59 ?_ (hR.row C) rfl Tryd.underlying95 HI.out ?_ ?_
      · rfl
      · rfl
      · exact ⟨rfl, below_setRow hb (Nat.le_refl _) C⟩
end Go.Proofs.YtnionejefpnfoaaDoor
