/- Life cycles: Reach. Conditions: the lists are short. -/
import Derived.Test.YtiajlglnefiemaaDoorLc
import Derived.Test.YtiajlglnefiemaaDoorLe
import Derived.StillTailTactics
set_option linter.unusedSimpArgs false
set_option linter.unusedVariables false
namespace Go.Proofs.YtiajlglnefiemaaDoor
open Go.RowKit

def rngB (g : Nat → Bool) (n : Nat) : List Bool := (List.range n).map g
def boolV (g : Nat → Bool) (n : Nat) : Array Value := (bools (rngB g n)).toArray
theorem boolV_size (g : Nat → Bool) (n : Nat) : (boolV g n).size = n := by simp [boolV, bools, rngB]
theorem boolV_get (g : Nat → Bool) {n i : Nat} (h : i < n) : (boolV g n)[i]? = some (.bool (g i)) := by
  unfold boolV bools rngB
  rw [List.getElem?_toArray, List.getElem?_map, List.getElem?_map, List.getElem?_range h]
  rfl
theorem boolV_ext {g g' : Nat → Bool} {n : Nat} (h : ∀ i, i < n → g i = g' i) : boolV g n = boolV g' n := by
  apply Array.ext_getElem?
  intro j
  by_cases hj : j < n
  · rw [boolV_get _ hj, boolV_get _ hj, h j hj]
  · rw [Array.getElem?_eq_none (by rw [boolV_size]; omega), Array.getElem?_eq_none (by rw [boolV_size]; omega)]
theorem boolV_set (g : Nat → Bool) {n i : Nat} (h : i < n) (v : Bool) : (boolV g n).setIfInBounds i (.bool v) = boolV (fun j => if j = i then v else g j) n := by
  apply Array.ext_getElem?
  intro j
  by_cases hj : j < n
  · rw [boolV_get _ hj]
    by_cases e : i = j
    · subst e
      rw [Array.getElem?_setIfInBounds_self_of_lt (by rw [boolV_size]; exact h), if_pos rfl]
    · rw [Array.getElem?_setIfInBounds_ne e, boolV_get _ hj, if_neg (fun h => e h.symm)]
  · rw [Array.getElem?_eq_none (by rw [Array.size_setIfInBounds, boolV_size]; omega), Array.getElem?_eq_none (by rw [boolV_size]; omega)]
theorem boolV_none (n : Nat) : boolV (fun _ => false) n = madeCells #[.bool false] n := by
  apply Array.ext
  · rw [boolV_size, size_madeCells]
  · intro i h1 h2
    rw [boolV_size] at h1
    have e1 := boolV_get (fun _ => false) h1
    rw [Array.getElem?_eq_getElem (by rw [boolV_size]; exact h1)] at e1
    injection e1 with e1
    rw [e1]
    simp [madeCells, Nat.mod_one]
theorem Blk.boolV_at {w : World} {g : Nat} {t : TypeId} {n : Nat} {f : Nat → Bool} (h : Blk w g t (boolV f n)) {i : Nat} (hi : i < n) : w.cell? ⟨g, i, none⟩ = some (.bool (f i)) := h.at_ (boolV_get f hi)
theorem grown_set (W : World) (p : Addr) (v : Value) : W.grownBy (W.setCell p v) (some p.block) :=
  ⟨rfl, rfl, rfl, by simp, fun k hk hne => Below.heap_setCell W p v k (fun e => hne (by rw [e]))⟩
theorem grown_trans {A B C : World} {r : Option Nat} (h : A.grownBy B r) (k : B.grownBy C r) : A.grownBy C r :=
  ⟨k.os.trans h.os, k.tape.trans h.tape, k.output.trans h.output, Nat.le_trans h.size k.size, fun i hi hne => (k.block i (Nat.lt_of_lt_of_le hi h.size) hne).trans (h.block i hi hne)⟩
theorem grown_drew {A B : World} {r : Option Nat} (h : A.grownBy B r) : A.grownBy B.drew r := ⟨h.os, h.tape, h.output, h.size, h.block⟩
/-- what one number of moves adds to what is reached -/
def seeB (lo k : Nat) (f g e : Nat → Bool) (s : Nat) : Bool := g s || (f s && (decide (lo ≤ k) || e s))
theorem seeB_set (lo k : Nat) (f g e : Nat → Bool) {n j : Nat} (hj : j < n) {v : Bool} (hv : v = seeB lo k f g e j) : (boolV (fun s => if s < j then seeB lo k f g e s else g s) n).setIfInBounds j (.bool v) = boolV (fun s => if s < j + 1 then seeB lo k f g e s else g s) n := by
  rw [boolV_set _ hj]
  refine boolV_ext fun i hi => ?_
  by_cases h1 : i = j
  · subst h1
    rw [if_pos rfl, if_pos (by omega), hv]
  · rw [if_neg h1]
    by_cases h2 : i < j
    · rw [if_pos h2, if_pos (by omega)]
    · rw [if_neg h2, if_neg (by omega)]
set_option maxRecDepth 100000 in
set_option maxHeartbeats 8000000 in
theorem reachSee_any (n k lo : Nat) (f g e : Nat → Bool) (go gO gL gE : Nat) (w : World) (hn : n ≤ 12)
    (h0 : Blk w go 4 (boolV g n)) (h1 : Blk w gO 39 #[.slice (some ⟨go, 0, none⟩) n n]) (h2 : Blk w gL 3 #[.int .i64 (lo : Int)]) (h3 : Blk w gE 94 (setV e)) :
    Calls Tryd.prog 68 #[.int .i64 (k : Int), .agg (setV f), .pointer (some ⟨gO, 0, none⟩), .pointer (some ⟨gL, 0, none⟩), .pointer (some ⟨gE, 0, none⟩)] w fun E W' => E = .returned (.bool true) ∧
      Blk W' go 4 (boolV (seeB lo k f g e) n) ∧ w.grownBy W' (some go) := by
  have n10 : gO ≠ go := h1.ne_ h0 (by decide)
  have n20 : gL ≠ go := h2.ne_ h0 (by decide)
  have n30 : gE ≠ go := h3.ne_ h0 (by decide)
  have ka := Blk.new w 94 (setV f)
  have h0a := h0.alloc (.cells (setV f) 94)
  have h1a := h1.alloc (.cells (setV f) 94)
  have h2a := h2.alloc (.cells (setV f) 94)
  have h3a := h3.alloc (.cells (setV f) 94)
  have ga := World.grownBy_alloc w (.cells (setV f) 94) (some go)
  have hgo := h0.lt
  have c1 : (w.alloc (.cells (setV f) 94)).cell? ⟨gO, 0, none⟩ = some (.slice (some ⟨go, 0, none⟩) n n) := h1a.at_ rfl
  go_enter Tryd.func68, Tryd.ntmps68
  go_wp2_with fail
  have kn : w.heap.size ≠ go := by omega
  have z0 : Blk (w.alloc (.cells (setV f) 94)) go 4 (boolV (fun s => if s < 0 then seeB lo k f g e s else g s) n) := by
    rw [boolV_ext (g' := g) (fun i hi => by rw [if_neg (by omega)])]
    exact h0a
  generalize w.alloc (.cells (setV f) 94) = w1 at *
  generalize w.heap.size = gn at *
  go_loopw [11] (fun i wr => ∃ j : Nat, j ≤ n ∧ i = .int .i64 (j : Int) ∧ Blk wr go 4 (boolV (fun s => if s < j then seeB lo k f g e s else g s) n) ∧ w1.grownBy wr (some go)) (fun i _ => (n - intOf i).toNat)
  case atStart => exact ⟨0, by omega, rfl, z0, ⟨rfl, rfl, rfl, Nat.le_refl _, fun _ _ _ => rfl⟩⟩
  case round =>
    clear z0
    obtain ⟨j, hj, rfl, hz, hg⟩ := hrel
    by_cases hlt : j < n
    · have hji : (j : Int) < (n : Int) := by omega
      have hj12 : j < 12 := by omega
      have hj12i : (j : Int) < 12 := by omega
      have q0 := hz.boolV_at hlt
      rw [if_neg (Nat.lt_irrefl j)] at q0
      have qn := (ka.grown hg (fun e => kn (by injection e))).setV_at hj12
      have qO : wr.cell? ⟨gO, 0, none⟩ = some (.slice (some ⟨go, 0, none⟩) n n) := (h1a.grown hg (fun e => n10 (by injection e))).at_ rfl
      have qL : wr.cell? ⟨gL, 0, none⟩ = some (.int .i64 (lo : Int)) := (h2a.grown hg (fun e => n20 (by injection e))).at_ rfl
      have qE := (h3a.grown hg (fun e => n30 (by injection e))).setV_at hj12
      have fz := hz.frozen j
      have hzd := hz.drew
      have hgd := grown_drew hg
      have qd : wr.drew.cell? ⟨go, j, none⟩ = some (.bool (g j)) := q0
      have fd : wr.drew.frozen? ⟨go, j, none⟩ = false := fz
      have HS := Lib.hid (fun v (hv : v = seeB lo k f g e j) => seeB_set lo k f g e hlt hv)
      have hsee : seeB lo k f g e j = (g j || (f j && (decide (lo ≤ k) || e j))) := rfl
      have HE := Lib.hid hsee
      have HZ := Lib.hid hzd
      have HG := Lib.hid hgd
      clear hsee hzd hgd hz hg fz h0 h1 h2 h3 h0a h1a h2a h3a ka ga n10 n20 n30 kn c1 hgo hn hj12
      cases hgj : g j
      · rw [hgj] at q0 qd
        cases hfj : f j
        · rw [hfj] at qn
          go_wp2_with fail
          go_region
          have hnew := HZ.out.set_ j (.bool false)
          rw [HS.out false (by rw [HE.out, hgj, hfj]; simp)] at hnew
          have hgn := grown_trans HG.out (grown_set wr.drew ⟨go, j, none⟩ (.bool false))
          have HN := Lib.hid hnew
          have HGN := Lib.hid hgn
          clear hnew hgn HZ HG HS HE
          go_wp2_with fail
          go_roundw
          case rel => exact ⟨j + 1, by omega, by go_num, HN.out, HGN.out⟩
          case measure => simp [intOf]; omega
        · rw [hfj] at qn
          by_cases hlk : (lo : Int) ≤ (k : Int)
          · have hlk2 : decide (lo ≤ k) = true := decide_eq_true (by omega)
            go_wp2_with fail
            go_region
            have hnew := HZ.out.set_ j (.bool true)
            rw [HS.out true (by rw [HE.out, hgj, hfj, hlk2]; simp)] at hnew
            have hgn := grown_trans HG.out (grown_set wr.drew ⟨go, j, none⟩ (.bool true))
            have HN := Lib.hid hnew
            have HGN := Lib.hid hgn
            clear hnew hgn HZ HG HS HE
            go_wp2_with fail
            go_roundw
            case rel => exact ⟨j + 1, by omega, by go_num, HN.out, HGN.out⟩
            case measure => simp [intOf]; omega
          · have hlk2 : decide (lo ≤ k) = false := decide_eq_false (by omega)
            have hlk3 : decide ((lo : Int) ≤ (k : Int)) = false := decide_eq_false hlk
            cases hej : e j
            · rw [hej] at qE
              go_wp2_with fail
              go_region
              have hnew := HZ.out.set_ j (.bool false)
              rw [HS.out false (by rw [HE.out, hgj, hfj, hlk2, hej]; simp)] at hnew
              have hgn := grown_trans HG.out (grown_set wr.drew ⟨go, j, none⟩ (.bool false))
              have HN := Lib.hid hnew
              have HGN := Lib.hid hgn
              clear hnew hgn HZ HG HS HE
              go_wp2_with fail
              go_roundw
              case rel => exact ⟨j + 1, by omega, by go_num, HN.out, HGN.out⟩
              case measure => simp [intOf]; omega
            · rw [hej] at qE
              go_wp2_with fail
              go_region
              have hnew := HZ.out.set_ j (.bool true)
              rw [HS.out true (by rw [HE.out, hgj, hfj, hlk2, hej]; simp)] at hnew
              have hgn := grown_trans HG.out (grown_set wr.drew ⟨go, j, none⟩ (.bool true))
              have HN := Lib.hid hnew
              have HGN := Lib.hid hgn
              clear hnew hgn HZ HG HS HE
              go_wp2_with fail
              go_roundw
              case rel => exact ⟨j + 1, by omega, by go_num, HN.out, HGN.out⟩
              case measure => simp [intOf]; omega
      · rw [hgj] at q0 qd
        go_wp2_with fail
        go_region
        have hnew := HZ.out.set_ j (.bool true)
        rw [HS.out true (by rw [HE.out, hgj]; simp)] at hnew
        have hgn := grown_trans HG.out (grown_set wr.drew ⟨go, j, none⟩ (.bool true))
        have HN := Lib.hid hnew
        have HGN := Lib.hid hgn
        clear hnew hgn HZ HG HS HE
        go_wp2_with fail
        go_roundw
        case rel => exact ⟨j + 1, by omega, by go_num, HN.out, HGN.out⟩
        case measure => simp [intOf]; omega
    · obtain rfl : j = n := by omega
      have hji : ¬ (j : Int) < (j : Int) := by omega
      go_wp2_with fail
      go_ret
      refine ⟨rfl, ?_, grown_trans ga hg⟩
      rw [boolV_ext (g' := fun s => if s < j then seeB lo k f g e s else g s) (fun i hi => by rw [if_pos hi])]
      exact hz
end Go.Proofs.YtiajlglnefiemaaDoor
