/- Life cycles: Reach. Conditions: the lists are short. -/
import Derived.Test.YtiajlglnefiemaaDoorLd
set_option linter.unusedSimpArgs false
set_option linter.unusedVariables false
namespace Go.Proofs.YtiajlglnefiemaaDoor
open Go.RowKit

theorem lifeE_ok {n : Nat} {M : List (Int × Int)} (h : lifeE n M = 0) : 1 ≤ n ∧ n ≤ 12 ∧ M.length ≤ 32 ∧ ∀ a b, (a, b) ∈ M → 0 ≤ a ∧ a < n ∧ 0 ≤ b ∧ b < n := by
  unfold lifeE at h
  by_cases h1 : 12 < n ∨ 32 < M.length
  · rw [if_pos h1] at h; omega
  · rw [if_neg h1] at h
    by_cases h2 : n = 0 ∨ anyBad n M = true
    · rw [if_pos h2] at h; omega
    · refine ⟨by omega, by omega, by omega, fun a b hab => ?_⟩
      have h3 : badM n (a, b) = false := by
        cases hv : badM n (a, b)
        · rfl
        · exact absurd (.inr ((anyBad_iff n M).2 ⟨_, hab, hv⟩)) h2
      unfold badM at h3
      simp only [Bool.or_eq_false_iff, decide_eq_false_iff_not] at h3
      omega
/-- what the first k numbers of moves lead to, from lo on -/
def outB (M : List (Int × Int)) (lo : Nat) : Nat → Nat → Bool
  | 0, _ => false
  | k + 1, s => outB M lo k s || (reachB M k s && (decide (lo ≤ k) || deadB M s))
theorem mv_nil {M : List (Int × Int)} {s : Nat} : (((mv M (s : Int)).length : Int) == 0) = deadB M s := by
  unfold deadB
  cases mv M (s : Int) with
  | nil => rfl
  | cons x l =>
    show (((x :: l).length : Int) == 0) = false
    rw [List.length_cons]
    simp
    omega
/-- the ends among the first j states -/
def endTo (M : List (Int × Int)) (j s : Nat) : Bool := decide (s < j) && deadB M s
theorem endTo_zero (M : List (Int × Int)) : setV (endTo M 0) = #[.bool false, .bool false, .bool false, .bool false, .bool false, .bool false, .bool false, .bool false, .bool false, .bool false, .bool false, .bool false] := rfl
theorem endTo_set {M : List (Int × Int)} {j : Nat} (hj : j < 12) {v : Bool} (hv : v = deadB M j) : (setV (endTo M j)).setIfInBounds j (.bool v) = setV (endTo M (j + 1)) := by
  rw [setV_set _ hj]
  congr 1
  funext s
  unfold endTo
  by_cases e : s = j
  · subst e
    rw [if_pos rfl, decide_eq_true (show s < s + 1 by omega), hv]
    rfl
  · rw [if_neg e]
    by_cases h : s < j
    · rw [decide_eq_true h, decide_eq_true (show s < j + 1 by omega)]
    · rw [decide_eq_false h, decide_eq_false (show ¬ s < j + 1 by omega)]
theorem info4b : (Tryd.prog.info? 4).map (fun i => (i.zero, i.size, i.bytes)) = some (some (.bool false), 1, 1) := by kernel_rfl
theorem seeB_out (M : List (Int × Int)) (lo k n s : Nat) (hs : s < n) : seeB lo k (reachB M k) (outB M lo k) (endTo M n) s = outB M lo (k + 1) s := by
  unfold seeB endTo
  rw [decide_eq_true hs]
  rfl
theorem grown_below {A C : World} {g B : Nat} (h : A.grownBy C (some g)) (hB : B ≤ g) (hs : g < A.heap.size) : Below B A C := (Below.refl B A).grown h (by omega) (fun k e => by cases e; exact hB)
/-- what the rounds of Reach keep -/
structure RR (B : Option Addr) (m n lo b go gL gE : Nat) (M : List (Int × Int)) (w5 : World) (k : Nat) (W : World) : Prop where
  mov : Reads W b 2 B m (movsV M)
  out : Blk W go 4 (boolV (outB M lo k) n)
  box : Blk W (go + 1) 39 #[.slice (some ⟨go, 0, none⟩) n n]
  lo_ : Blk W gL 3 #[.int .i64 (lo : Int)]
  ends : Blk W gE 94 (setV (endTo M n))
  below : ∀ q, q ≤ go → Below q w5 W
theorem reach_rounds (nm : ByteArray) (A : Option Addr) (n c : Nat) (B : Option Addr) (m d : Nat) (M : List (Int × Int)) (lo hi b go gL gE : Nat) (w : World) (hE : lifeE n M = 0) (hh : hi ≤ 1000) (hb : b ≤ go) (h : RR B m n lo b go gL gE M w 0 w) :
    Calls Tryd.prog 67 #[lifeV nm A n c B m d, .int .i64 (hi : Int), .func (.func 68) #[] #[.pointer (some ⟨go + 1, 0, none⟩), .pointer (some ⟨gL, 0, none⟩), .pointer (some ⟨gE, 0, none⟩)]] w fun E W' => (∃ v, E = .returned v) ∧ RR B m n lo b go gL gE M w (hi + 1) W' := by
  obtain ⟨hn1, hn12, hm32, hM⟩ := lifeE_ok hE
  have hml := h.mov.mov_len
  have hgo := h.out.lt
  have hbox := h.box.lt
  have hgL := h.lo_.lt
  have hgE := h.ends.lt
  have hr := rounds_any nm A n c B m d M hi 68 #[.pointer (some ⟨go + 1, 0, none⟩), .pointer (some ⟨gL, 0, none⟩), .pointer (some ⟨gE, 0, none⟩)] (RR B m n lo b go gL gE M w) (fun _ => False) w
    (enters_of Tryd.func68 (by kernel_rfl) rfl) (fun x y hxy => by have := hM x y hxy; omega) (by omega) (by omega)
    (fun k W hJ => hJ.mov.more (by omega))
    (fun k W W' hJ hB => ⟨hJ.mov.below (hB.mono (by omega)), hJ.out.below hB hgo, hJ.box.below hB hbox, hJ.lo_.below hB hgL, hJ.ends.below hB hgE, fun q hq => (hJ.below q hq).trans (hB.mono (by omega))⟩)
    (fun k W hk hJ => ?_) h
  · refine hr.mono ?_
    rintro E W' ⟨hv, h1 | h1⟩
    · exact ⟨hv, h1⟩
    · exact h1.elim
  · have hs := reachSee_any n k lo (reachB M k) (outB M lo k) (endTo M n) go (go + 1) gL gE W hn12 hJ.out hJ.box hJ.lo_ hJ.ends
    rw [boolV_ext (g' := outB M lo (k + 1)) (fun i hi => seeB_out M lo k n i hi)] at hs
    simp only [List.append_toArray, List.cons_append, List.nil_append]
    refine hs.mono ?_
    rintro E W' ⟨rfl, ho, hg⟩
    have hWs : go < W.heap.size := hJ.out.lt
    have n1 : go + 1 ≠ go := by omega
    have n2 : gL ≠ go := hJ.lo_.ne_ hJ.out (by decide)
    have n3 : gE ≠ go := hJ.ends.ne_ hJ.out (by decide)
    refine ⟨true, rfl, fun _ => ⟨hJ.mov.below (grown_below hg hb hWs), ho, hJ.box.grown hg (fun e => n1 (by injection e)), hJ.lo_.grown hg (fun e => n2 (by injection e)), hJ.ends.grown hg (fun e => n3 (by injection e)), fun q hq => (hJ.below q hq).trans (grown_below hg hq hWs)⟩, fun e => (by cases e), ⟨hg.size, fun g t cs hB hblk => hblk.grown hg (fun e => ?_)⟩⟩
    injection e with e
    omega
set_option maxRecDepth 100000 in
set_option maxHeartbeats 8000000 in
theorem reach_any (nm : ByteArray) (A : Option Addr) (n c : Nat) (B : Option Addr) (m d : Nat) (M : List (Int × Int)) (lo hi : Nat) (w : World) (h : Reads w w.heap.size 2 B m (movsV M)) (hE : lifeE n M = 0) (hlo : lo ≤ hi) (hh : hi ≤ 1000) :
    Calls Tryd.prog 36 #[lifeV nm A n c B m d, .int .i64 (lo : Int), .int .i64 (hi : Int)] w fun E W' => ∃ go, E = .returned (.slice (some ⟨go, 0, none⟩) n n) ∧ Blk W' go 4 (boolV (outB M lo (hi + 1)) n) ∧ w.heap.size ≤ go ∧ Below w.heap.size w W' := by
  have hml := h.mov_len
  obtain ⟨hn1, hn12, hm32, hM⟩ := lifeE_ok hE
  obtain ⟨i0, hi0, hz0, hz1, hz2⟩ := info_parts info4b
  have hv := fun W (hb : Below w.heap.size w W) => lifeValid_any nm A n c B m d M W ((h.below hb).more hb.size) (by omega) (by omega)
  rw [hE] at hv
  have hmv := fun (s : Nat) W (hb : Below w.heap.size w W) => mov_any nm A n c B m d M (s : Int) W ((h.below hb).more hb.size) (by omega)
  have HM2 := Lib.hid (fun W (hb : Below w.heap.size w W) => h.below hb)
  have HE2 := Lib.hid hE
  have HV := Lib.hid hv
  have HMV := Lib.hid hmv
  have b0 : Below w.heap.size w ((w.alloc (.cells #[.string nm, .slice A n c, .slice B m d] 50)).alloc (.cells #[.int .i64 (lo : Int)] 3)) := ((Below.refl w.heap.size w).alloc (Nat.le_refl _) _).alloc (by simp) _
  have k0 : Blk ((w.alloc (.cells #[.string nm, .slice A n c, .slice B m d] 50)).alloc (.cells #[.int .i64 (lo : Int)] 3)) w.heap.size 50 #[.string nm, .slice A n c, .slice B m d] := (Blk.new w 50 _).alloc _
  have k1 : Blk ((w.alloc (.cells #[.string nm, .slice A n c, .slice B m d] 50)).alloc (.cells #[.int .i64 (lo : Int)] 3)) (w.heap.size + 1) 3 #[.int .i64 (lo : Int)] := Blk.new' (by simp)
  have e0 : ((lo : Int) < 0) = False := by simp
  have hi1 : ¬ ((hi : Int) < (lo : Int)) := by omega
  have hi2 : ¬ ((1000 : Int) < (hi : Int)) := by omega
  have hi3 : decide (hi < lo) = false := decide_eq_false (by omega)
  have hi4 : decide ((1000 : Int) < (hi : Int)) = false := decide_eq_false hi2
  have l0 : ((w.alloc (.cells #[.string nm, .slice A n c, .slice B m d] 50)).alloc (.cells #[.int .i64 (lo : Int)] 3)).cell? ⟨w.heap.size + 1, 0, none⟩ = some (.int .i64 (lo : Int)) := k1.at_ rfl
  clear hv hmv
  go_enter Tryd.func36, Tryd.ntmps36
  go_wp2_with fail
  generalize (w.alloc (.cells #[.string nm, .slice A n c, .slice B m d] 50)).alloc (.cells #[.int .i64 (lo : Int)] 3) = w0 at *
  refine (HV.out w0 b0).mono ?_
  rintro E w1 ⟨rfl, b1⟩
  have c1 := b0.trans (b1.mono b0.size)
  have j0 := k0.thru b1
  have j1 := k1.thru b1
  have l1 : w1.cell? ⟨w.heap.size + 1, 0, none⟩ = some (.int .i64 (lo : Int)) := j1.at_ rfl
  have l2 : w1.cell? ⟨w.heap.size, 1, none⟩ = some (.slice A n c) := j0.at_ rfl
  have l3 : (w1.alloc (.cells #[.bool false, .bool false, .bool false, .bool false, .bool false, .bool false, .bool false, .bool false, .bool false, .bool false, .bool false, .bool false] 94)).cell? ⟨w.heap.size, 1, none⟩ = some (.slice A n c) := (j0.alloc _).at_ rfl
  clear k0 k1 b0 b1 l0
  go_wp2_with fail
  have m0 := j0.alloc (.cells (setV (endTo M 0)) 94)
  have m1 := j1.alloc (.cells (setV (endTo M 0)) 94)
  have m2 := Blk.new w1 94 (setV (endTo M 0))
  have m3 := c1.alloc c1.size (.cells (setV (endTo M 0)) 94)
  rw [← endTo_zero M]
  rw [← endTo_zero M] at l3
  have hgE : w.heap.size + 2 ≤ w1.heap.size := by have := j1.lt; omega
  generalize w1.alloc (.cells (setV (endTo M 0)) 94) = w2 at *
  generalize w1.heap.size = gE at *
  go_loopw [29] (fun i wr => ∃ j : Nat, j ≤ n ∧ i = .int .i64 (j : Int) ∧ Blk wr gE 94 (setV (endTo M j)) ∧ Blk wr w.heap.size 50 #[.string nm, .slice A n c, .slice B m d] ∧ Blk wr (w.heap.size + 1) 3 #[.int .i64 (lo : Int)] ∧ Below w.heap.size w wr) (fun i _ => (n - intOf i).toNat)
  case atStart => exact ⟨0, by omega, rfl, m2, m0, m1, m3⟩
  case round =>
    clear m0 m1 m2 m3 l1 l2 l3 c1 j0 j1 h
    obtain ⟨j, hj, rfl, hx, hl, ho, hb⟩ := hrel
    by_cases hlt : j < n
    · have hji : (j : Int) < (n : Int) := by omega
      have hj12 : j < 12 := by omega
      have hj12i : (j : Int) < 12 := by omega
      have q0 : wr.cell? ⟨w.heap.size, 0, none⟩ = some (.string nm) := hl.at_ rfl
      have q1 : wr.cell? ⟨w.heap.size, 1, none⟩ = some (.slice A n c) := hl.at_ rfl
      have q2 : wr.cell? ⟨w.heap.size, 2, none⟩ = some (.slice B m d) := hl.at_ rfl
      go_wp2_with fail
      refine (HMV.out j wr hb).mono ?_
      rintro E w4 ⟨v, rfl, ov, b4⟩
      obtain ⟨A4, c4, rfl, -, -, -⟩ := own_slice ov
      have hx4 := hx.thru b4
      have hl4 := hl.thru b4
      have ho4 := ho.thru b4
      have hb4 := below_next hb b4
      have cx := hx4.setV_at hj12
      have fx := hx4.frozen j
      have hset := endTo_set (M := M) hj12 (v := (((mv M (j : Int)).length : Int) == 0)) mv_nil
      have HST := Lib.hid hset
      clear ov q0 q1 q2 hset
      have hx5 := hx4.set_ j (.bool (((mv M (j : Int)).length : Int) == 0))
      rw [HST.out] at hx5
      have hl5 := hl4.far (p := ⟨gE, j, none⟩) (show w.heap.size ≠ gE by omega) (.bool (((mv M (j : Int)).length : Int) == 0))
      have ho5 := ho4.far (p := ⟨gE, j, none⟩) (show w.heap.size + 1 ≠ gE by omega) (.bool (((mv M (j : Int)).length : Int) == 0))
      have hge : w.heap.size ≤ (⟨gE, j, none⟩ : Addr).block := by show w.heap.size ≤ gE; omega
      have hb5 := hb4.setCell hge (.bool (((mv M (j : Int)).length : Int) == 0))
      go_wp2_with fail
      go_roundw
      case rel => exact ⟨j + 1, by omega, by go_num, hx5, hl5, ho5, hb5⟩
      case measure => simp [intOf]; omega
    · obtain rfl : j = n := by omega
      have hji : ¬ (j : Int) < (j : Int) := by omega
      have q1 : wr.cell? ⟨w.heap.size, 1, none⟩ = some (.slice A j c) := hl.at_ rfl
      have hmf : ∀ (fn : Fn) (first cap : Array Value) (w : World), (Instr.makeFunc fn first cap).run Tryd.prog w = .ok (.func fn first cap) w := fun _ _ _ _ => rfl
      have wsz : ((wr.alloc (.cells (madeCells #[.bool false] j) 4))).heap.size = wr.heap.size + 1 := by simp
      have hlA := (hl.alloc (.cells (madeCells #[.bool false] j) 4)).alloc (.cells #[.slice (some ⟨wr.heap.size, 0, none⟩) j j] 39)
      have hoA := (ho.alloc (.cells (madeCells #[.bool false] j) 4)).alloc (.cells #[.slice (some ⟨wr.heap.size, 0, none⟩) j j] 39)
      have hxA := (hx.alloc (.cells (madeCells #[.bool false] j) 4)).alloc (.cells #[.slice (some ⟨wr.heap.size, 0, none⟩) j j] 39)
      have hrA := (Blk.new wr 4 (madeCells #[.bool false] j)).alloc (.cells #[.slice (some ⟨wr.heap.size, 0, none⟩) j j] 39)
      have huA : Blk ((wr.alloc (.cells (madeCells #[.bool false] j) 4)).alloc (.cells #[.slice (some ⟨wr.heap.size, 0, none⟩) j j] 39)) (wr.heap.size + 1) 39 #[.slice (some ⟨wr.heap.size, 0, none⟩) j j] := Blk.new' wsz.symm
      have hbA := (hb.alloc hb.size (.cells (madeCells #[.bool false] j) 4)).alloc (by rw [wsz]; have := hb.size; omega) (.cells #[.slice (some ⟨wr.heap.size, 0, none⟩) j j] 39)
      have a0 : ((wr.alloc (.cells (madeCells #[.bool false] j) 4)).alloc (.cells #[.slice (some ⟨wr.heap.size, 0, none⟩) j j] 39)).cell? ⟨w.heap.size, 0, none⟩ = some (.string nm) := hlA.at_ rfl
      have a1 : ((wr.alloc (.cells (madeCells #[.bool false] j) 4)).alloc (.cells #[.slice (some ⟨wr.heap.size, 0, none⟩) j j] 39)).cell? ⟨w.heap.size, 1, none⟩ = some (.slice A j c) := hlA.at_ rfl
      have a2 : ((wr.alloc (.cells (madeCells #[.bool false] j) 4)).alloc (.cells #[.slice (some ⟨wr.heap.size, 0, none⟩) j j] 39)).cell? ⟨w.heap.size, 2, none⟩ = some (.slice B m d) := hlA.at_ rfl
      have hgo : w.heap.size ≤ wr.heap.size := hb.size
      clear hl ho hx
      go_wp2_with (at_make; refine wpList_make_row _ rfl _ _ 39 rfl 4 i0 (.bool false) Tryd.underlying39 hi0 hz0 hz1 rfl .i64 .i64 j rfl rfl (by rw [hz2]; omega) (by omega) ?_)
      generalize (wr.alloc (.cells (madeCells #[.bool false] j) 4)).alloc (.cells #[.slice (some ⟨wr.heap.size, 0, none⟩) j j] 39) = w5 at *
      generalize wr.heap.size = go at *
      have hmA := HM2.out w5 hbA
      rw [← boolV_none] at hrA
      refine (reach_rounds nm A j c B m d M lo hi w.heap.size go (w.heap.size + 1) gE w5 HE2.out hh hgo ⟨hmA, hrA, huA, hoA, hxA, fun q hq => Below.refl _ _⟩).mono ?_
      rintro E w6 ⟨⟨v, rfl⟩, hrr⟩
      have hb6 := hbA.trans (hrr.below _ hgo)
      have hou := hrr.out
      have hbx : w6.cell? ⟨go + 1, 0, none⟩ = some (.slice (some ⟨go, 0, none⟩) j j) := hrr.box.at_ rfl
      have HO := Lib.hid hou
      clear hrr hou hrA huA hoA hxA hlA hmA a0 a1 a2
      go_wp2_with fail
      go_ret
      exact ⟨go, rfl, HO.out, hgo, hb6⟩
end Go.Proofs.YtiajlglnefiemaaDoor
