/- Life cycles: Least's closure. Conditions: the lists are short. -/
import Derived.Test.YtiajlglnefiemaaDoorLj
import Derived.Test.YtiajlglnefiemaaDoorLf
import Derived.BigRegion
set_option linter.unusedSimpArgs false
set_option linter.unusedVariables false
namespace Go.Proofs.YtiajlglnefiemaaDoor
open Go.RowKit

/-- what one number of moves adds to the fewest moves -/
def lsee (k : Nat) (f : Nat → Bool) (g : Nat → Int) (s : Nat) : Int := if f s && decide (g s < 0) then (k : Int) else g s
theorem lsee_set (k : Nat) (f : Nat → Bool) (g : Nat → Int) {n j : Nat} (hj : j < n) {v : Int} (hv : v = lsee k f g j) : (rowI (fun s => if s < j then lsee k f g s else g s) n).setIfInBounds j (.int .i64 v) = rowI (fun s => if s < j + 1 then lsee k f g s else g s) n := by
  rw [rowI_set _ hj]
  refine rowI_ext fun i hi => ?_
  by_cases h1 : i = j
  · subst h1
    rw [if_pos rfl, if_pos (by omega), hv]
  · rw [if_neg h1]
    by_cases h2 : i < j
    · rw [if_pos h2, if_pos (by omega)]
    · rw [if_neg h2, if_neg (by omega)]
theorem lsee_same (k : Nat) (f : Nat → Bool) (g : Nat → Int) {n j : Nat} (hv : g j = lsee k f g j) : rowI (fun s => if s < j then lsee k f g s else g s) n = rowI (fun s => if s < j + 1 then lsee k f g s else g s) n := by
  refine rowI_ext fun i hi => ?_
  by_cases h1 : i = j
  · subst h1
    rw [if_neg (by omega), if_pos (by omega), hv]
  · by_cases h2 : i < j
    · rw [if_pos h2, if_pos (by omega)]
    · rw [if_neg h2, if_neg (by omega)]
set_option maxRecDepth 100000 in
set_option maxHeartbeats 8000000 in
theorem leastSee_any (n k : Nat) (f : Nat → Bool) (g : Nat → Int) (go gO : Nat) (w : World) (hn : n ≤ 12)
    (h0 : Blk w go 3 (rowI g n)) (h1 : Blk w gO 22 #[.slice (some ⟨go, 0, none⟩) n n]) :
    Calls Tryd.prog 72 #[.int .i64 (k : Int), .agg (setV f), .pointer (some ⟨gO, 0, none⟩)] w fun E W' => E = .returned (.bool (hasB ((List.range n).map (lsee k f g)) (-1))) ∧
      Blk W' go 3 (rowI (lsee k f g) n) ∧ w.grownBy W' (some go) := by
  have n10 : gO ≠ go := h1.ne_ h0 (by decide)
  have ka := Blk.new w 94 (setV f)
  have h0a := h0.alloc (.cells (setV f) 94)
  have h1a := h1.alloc (.cells (setV f) 94)
  have ga := World.grownBy_alloc w (.cells (setV f) 94) (some go)
  have hgo := h0.lt
  have c1 : (w.alloc (.cells (setV f) 94)).cell? ⟨gO, 0, none⟩ = some (.slice (some ⟨go, 0, none⟩) n n) := h1a.at_ rfl
  go_enter Tryd.func72, Tryd.ntmps72
  go_wp2_with fail
  have kn : w.heap.size ≠ go := by omega
  have z0 : Blk (w.alloc (.cells (setV f) 94)) go 3 (rowI (fun s => if s < 0 then lsee k f g s else g s) n) := by
    rw [rowI_ext (g := g) (fun i hi => by rw [if_neg (by omega)])]
    exact h0a
  generalize w.alloc (.cells (setV f) 94) = w1 at *
  generalize w.heap.size = gn at *
  go_loopw [9] (fun i wr => ∃ j : Nat, j ≤ n ∧ i = .int .i64 (j : Int) ∧ Blk wr go 3 (rowI (fun s => if s < j then lsee k f g s else g s) n) ∧ w1.grownBy wr (some go)) (fun i _ => (n - intOf i).toNat)
  case atStart => exact ⟨0, by omega, rfl, z0, ⟨rfl, rfl, rfl, Nat.le_refl _, fun _ _ _ => rfl⟩⟩
  case round =>
    clear z0
    obtain ⟨j, hj, rfl, hz, hg⟩ := hrel
    have qO : wr.cell? ⟨gO, 0, none⟩ = some (.slice (some ⟨go, 0, none⟩) n n) := (h1a.grown hg (fun e => n10 (by injection e))).at_ rfl
    by_cases hlt : j < n
    · have hji : (j : Int) < (n : Int) := by omega
      have hj12 : j < 12 := by omega
      have hj12i : (j : Int) < 12 := by omega
      have q0 := hz.rowI_at hlt
      rw [if_neg (Nat.lt_irrefl j)] at q0
      have qn := (ka.grown hg (fun e => kn (by injection e))).setV_at hj12
      have fz := hz.frozen j
      clear h0 h1 h0a h1a ka n10 kn ga c1 hgo hn hj12
      cases hfj : f j
      · have hv : g j = lsee k f g j := by unfold lsee; rw [hfj]; rfl
        rw [hfj] at qn
        clear hfj
        have hnew := hz
        rw [lsee_same k f g hv] at hnew
        have HN := Lib.hid hnew
        have HGN := Lib.hid hg
        clear hnew hz hg hv
        go_wp2_with fail
        go_roundw
        case rel => exact ⟨j + 1, by omega, by go_num, HN.out, HGN.out⟩
        case measure => simp [intOf]; omega
      · rw [hfj] at qn
        by_cases hneg : g j < 0
        · have hv : (k : Int) = lsee k f g j := by unfold lsee; rw [hfj, decide_eq_true hneg]; rfl
          clear hfj
          generalize hgj : g j = gj at *
          have hnew := hz.set_ j (.int .i64 (k : Int))
          rw [lsee_set k f g hlt hv] at hnew
          have hgn := grown_trans hg (grown_set wr ⟨go, j, none⟩ (.int .i64 (k : Int)))
          have HN := Lib.hid hnew
          have HGN := Lib.hid hgn
          clear hnew hgn hz hg hv
          go_wp2_with fail
          go_roundw
          case rel => exact ⟨j + 1, by omega, by go_num, HN.out, HGN.out⟩
          case measure => simp [intOf]; omega
        · have hv : g j = lsee k f g j := by unfold lsee; rw [hfj, decide_eq_false hneg]; rfl
          have hneg2 : decide (g j < 0) = false := decide_eq_false hneg
          clear hfj
          have hnew := hz
          rw [lsee_same k f g hv] at hnew
          have HN := Lib.hid hnew
          have HGN := Lib.hid hg
          clear hnew hz hg hv
          go_wp2_with fail
          go_roundw
          case rel => exact ⟨j + 1, by omega, by go_num, HN.out, HGN.out⟩
          case measure => simp [intOf]; omega
    · obtain rfl : j = n := by omega
      have hji : ¬ (j : Int) < (j : Int) := by omega
      rw [rowI_ext (g := lsee k f g) (fun i hi => by rw [if_pos hi])] at hz
      have hc := contains_any (some ⟨go, 0, none⟩) j j ((List.range j).map (lsee k f g)) (-1) wr.heap.size wr (hz.rowI_reads hz.lt) (by omega)
      have HC := Lib.hid hc
      clear hc
      go_wp2_with fail
      refine HC.out.mono ?_
      rintro E w2 ⟨rfl, q, rfl⟩
      go_wp2_with fail
      go_ret
      exact ⟨rfl, hz.drewN q, grown_trans ga (let h := hg; ⟨h.os, h.tape, h.output, h.size, h.block⟩)⟩
end Go.Proofs.YtiajlglnefiemaaDoor
